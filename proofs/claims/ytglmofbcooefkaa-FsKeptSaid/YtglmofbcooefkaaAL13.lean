/- A region, a call, a body. -/
import Derived.Test.YtglmofbcooefkaaALN
namespace Go.Proofs.Ytglmofbcooefkaa.AL
set_option linter.unusedVariables false
set_option linter.unusedSimpArgs false
open Go

variable {G : Rnd} {ρ ρ' : Env} {h h' : AHeap} {w w' : World} {P : Program}

def aPick (c : Bool) (x y : AVal) : AVal := match x, y with
  | .lit (.bool a), .lit (.bool b) => .lit (.bool (if c then a else b))
  | x, y => if c then x else y

theorem VR.pick {c : Bool} {x y : AVal} {u v : Value} (hx : VR ρ h w x u) (hy : c = false → VR ρ h w y v) : VR ρ h w (if c then x else y) (if c then u else v) := by
  cases c
  · exact hy rfl
  · exact hx

/-- The arguments of an operation. -/
def evs (a : List AVal) (xs : Array Operand) : List AVal := xs.toList.map (aEval a)

theorem AR.evs {a : List AVal} {ca : Act} (ha : AR G ρ h w a ca) (xs : Array Operand) : VRs ρ h w (evs a xs) (xs.map ca.eval) := by
  refine ⟨by simp [AL.evs], fun i hi => ?_⟩
  have h1 : i < xs.size := by simpa [AL.evs] using hi
  have h2 : i < (xs.map ca.eval).size := by simpa using h1
  simp only [AL.evs, List.getElem_map, Array.getElem_toList, Array.getD, h2, dif_pos]
  show VR ρ h w _ ((xs.map ca.eval)[i])
  simp only [Array.getElem_map]
  exact ha.eval _

def evParts (a : List AVal) (ps : Array (Nat × Operand)) : List (Nat × AVal) := ps.toList.map fun p => (p.1, aEval a p.2)

theorem AR.parts {a : List AVal} {ca : Act} (ha : AR G ρ h w a ca) (ps : Array (Nat × Operand)) : PartsR ρ h w (evParts a ps) (ps.map fun (i, x) => (i, ca.eval x)).toList := by
  obtain ⟨l⟩ := ps
  simp only [evParts, List.map_toArray]
  induction l with
  | nil => trivial
  | cons p l ih => exact ⟨rfl, ha.eval _, ih⟩

/-- 'append' wants the zero of its element to be of its size: asked of the table once. -/
def zeroFits (P : Program) (sT : TypeId) : Prop := ∀ e k z, tySlice P sT = some e → tySize P e = some k → tyZero P e = some z → ∀ v, z = litA v → v.cells.size = k

theorem map_lit_inj : ∀ (a b : List Value), a.map AVal.lit = b.map AVal.lit → a = b
  | [], [], _ => rfl
  | [], _ :: _, h => by simp at h
  | _ :: _, [], h => by simp at h
  | x :: a, y :: b, h => by
    simp only [List.map_cons, List.cons.injEq, AVal.lit.injEq] at h
    rw [h.1, map_lit_inj a b h.2]

def unlit : AVal → Value
  | .lit v => v
  | .agg vs => .agg ((vs.map fun | .lit v => v | _ => undef).toArray)
  | _ => undef

theorem unlit_litA (v : Value) : unlit (litA v) = v := by
  cases v with
  | agg cs =>
    obtain ⟨l⟩ := cs
    simp only [litA, unlit, List.map_map]
    congr 2
    induction l with
    | nil => rfl
    | cons x l ih => simp only [List.map_cons, Function.comp]; rw [ih]
  | _ => rfl

theorem litA_inj {u v : Value} (h : litA u = litA v) : u = v := by rw [← unlit_litA u, ← unlit_litA v, h]

def zeroFitsB (P : Program) (t : TypeId) : Bool := match tySlice P t with
  | none => true
  | some e => match P.info? e with
    | none => true
    | some i => match i.zero with
      | none => true
      | some v => v.cells.size == i.size

theorem zeroFits_of {t : TypeId} (h : zeroFitsB P t = true) : zeroFits P t := by
  intro e k z h1 h2 h3 v h4
  unfold zeroFitsB at h
  rw [h1] at h
  unfold tySize at h2
  unfold tyZero at h3
  cases hi : P.info? e with
  | none => rw [hi] at h2; simp at h2
  | some i =>
    simp only [hi] at h h2 h3
    cases hz : i.zero with
    | none => simp [hz] at h3
    | some u =>
      simp [hz] at h h3 h2
      obtain rfl : u = v := litA_inj (h3.trans h4)
      rw [h, h2]

/-- A range over a text, or a map. -/
def aRange (P : Program) (t : TypeId) (x : AVal) (h : AHeap) (K : AVal → AHeap → Prop) : Prop := match x with
  | .map b => aRangeM P t (.map b) h K
  | x => aRangeS P t x h K
theorem aRange_sound {t : TypeId} {x : AVal} {u : Value} {K : AVal → AHeap → Prop} (hR : Rel ρ h w) (hx : VR ρ h w x u) (hK : aRange P t x h K) : Gives P ρ h w (Instr.range t u) K := by
  unfold aRange at hK
  split at hK
  · exact aRangeM_sound hR hx hK
  · exact aRangeS_sound hR hx hK

/-- One operation that is no call of a Go function. -/
def AOp (P : Program) (o : Op) (ty : TypeId) (a : List AVal) (h : AHeap) (K : AVal → AHeap → Prop) : Prop :=
  match o with
  | .move x | .assign x => K (aEval a x) h
  | .pick c x y => match aEval a c with
    | .lit (.bool b) => K (if b then aEval a x else aEval a y) h
    | _ => False
  | .alloc t => aAlloc P t h K
  | .box t x => aBox (aEval a x) h K
  | .build t ps => aBuild P t (evParts a ps) fun v => K v h
  | .buildSlice t len ps => aBuildSlice P t len (evParts a ps) h K
  | .load t x => aLoad P t h (aEval a x) fun v => K v h
  | .store t p x => aStore P t h (aEval a p) (aEval a x) fun h' => K .any h'
  | .nilCheck x => match aEval a x with
    | .ptr b o => K (.ptr b o) h
    | .rop cs => K (.rop cs) h
    | .fn (.func f) vs ws => K (.fn (.func f) vs ws) h
    | .fn (.yield f) vs ws => K (.fn (.yield f) vs ws) h
    | _ => False
  | .binOp op t x y _ => aBin P op t x y (aEval a x) (aEval a y) fun v => K v h
  | .unOp op _ x => aUn op (aEval a x) fun v => K v h
  | .convert s d x => aConv P s d (aEval a x) h K
  | .makeInterface t x => aIface P t (aEval a x) fun v => K v h
  | .makeFunc f xs ys => K (.fn f (evs a xs) (evs a ys)) h
  | .makeSlice t l c => aMake P t (aEval a l) (aEval a c) h K
  | .slice t x lo hi mx => aSlice P t h (aEval a x) (lo.map (aEval a)) (hi.map (aEval a)) (mx.map (aEval a)) fun v => K v h
  | .fieldAddr t x i => aField P t (aEval a x) i fun v => K v h
  | .field t x i => aFieldV P t (aEval a x) i fun v => K v h
  | .indexAddr t x i => aIndexAddr P t (aEval a x) (aEval a i) fun v => K v h
  | .index t x i => aIndex P t (aEval a x) (aEval a i) fun v => K v h
  | .extract x i => aExtract (aEval a x) i fun v => K v h
  | .typeAssert x _ t ok => aAssert P (aEval a x) t ok fun v => K v h
  | .makeMap t none => aMakeMap P t h K
  | .lookup t x k ok => aLookup P t h (aEval a x) (aEval a k) ok fun v => K v h
  | .mapUpdate t m k x => aMapUpdate P t h (aEval a m) (aEval a k) (aEval a x) fun h' => K .any h'
  | .insert t m k x => aMapUpdate P t h (aEval a m) (aEval a k) (aEval a x) fun h' => K .any h'
  | .range t x => aRange P t (aEval a x) h K
  | .next it true => aNextS (aEval a it) h K
  | .next it false => aNextM (aEval a it) h K
  | .entry it => aEntry (aEval a it) h K
  | .call { callee := .builtin b, args, argTypes } => match b, args.toList, argTypes.toList with
    | .append, [s, x], [sT, xT] => zeroFits P sT ∧ aAppend P sT xT h (aEval a s) (aEval a x) K
    | .copy, [d, x], [dT, xT] => aCopy P dT h (aEval a d) (aEval a x) K
    | .len, [x], [t] => match P.underlying t with
      | some (.map _ _) => aMapLen h (aEval a x) fun v => K v h
      | _ => aLen P t (aEval a x) fun v => K v h
    | .delete, [m, k], [mt, _] => aDelete P mt h (aEval a m) (aEval a k) K
    | .max, _, _ => aMinMax maxI (evs a args) fun v => K v h
    | .min, _, _ => aMinMax minI (evs a args) fun v => K v h
    | _, _, _ => False
  | _ => False

/-- What such an operation comes to. -/
def Did (P : Program) (ρ : Env) (h : AHeap) (w : World) (s : Sem Next) (K : AVal → AHeap → Prop) : Prop :=
  ∃ ρ' h' w' v u, (s.run P w = .ok (.value u) w' ∨ (s.run P w = .ok .skip w' ∧ u = undef)) ∧ Evo ρ h w ρ' h' w' ∧ Rel ρ' h' w' ∧ VR ρ' h' w' v u ∧ K v h'

theorem Gives.did {s : Sem Value} {K : AVal → AHeap → Prop} (hg : Gives P ρ h w s K) : Did P ρ h w (do pure (.value (← s))) K := by
  obtain ⟨ρ', h', w', v, u, h1, h2⟩ := hg
  exact ⟨ρ', h', w', v, u, .inl (by simp [h1]), h2⟩

theorem Gives.mono {s : Sem Value} {K K' : AVal → AHeap → Prop} (hg : Gives P ρ h w s K) (hK : ∀ v h', K v h' → K' v h') : Gives P ρ h w s K' := by
  obtain ⟨ρ', h', w', v, u, h1, h2, h3, h4, h5⟩ := hg
  exact ⟨ρ', h', w', v, u, h1, h2, h3, h4, hK _ _ h5⟩

theorem Gives.did' {s : Sem Value} {K : AVal → AHeap → Prop} (hg : Gives P ρ h w s fun v h' => K v h ∧ h' = h) : Did P ρ h w (do pure (.value (← s))) K :=
  (hg.mono (by rintro v h' ⟨hk, rfl⟩; exact hk)).did

theorem VRo.of {a : List AVal} {ca : Act} (ha : AR G ρ h w a ca) (x : Option Operand) : VRo ρ h w (x.map (aEval a)) (x.map ca.eval) := by
  cases x with
  | none => trivial
  | some x => exact ha.eval x

theorem two_of {α : Type} {xs : Array α} {x y : α} (h : xs.toList = [x, y]) : xs = #[x, y] := by
  obtain ⟨l⟩ := xs; simp at h; rw [h]
theorem one_of {α : Type} {xs : Array α} {x : α} (h : xs.toList = [x]) : xs = #[x] := by
  obtain ⟨l⟩ := xs; simp at h; rw [h]

theorem aBuiltin_sound {b : Builtin} {args : Array Operand} {argTypes : Array TypeId} {ty : TypeId} {a : List AVal} {ca : Act} {K : AVal → AHeap → Prop} (hR : Rel ρ h w) (ha : AR G ρ h w a ca)
    (hK : AOp P (.call { callee := .builtin b, args, argTypes }) ty a h K) :
    Did P ρ h w (do let d ← resolve ca.eval { callee := .builtin b, args, argTypes } ty; invoke d.target d.args) K := by
  simp only [AOp] at hK
  simp only [resolve, Sem.run_bind, invoke, pure_bind]
  split at hK
  · rename_i s x sT xT h1 h2
    obtain rfl := two_of h1
    obtain rfl := two_of h2
    obtain ⟨hz, hK⟩ := hK
    simp only [List.map_toArray, List.map_cons, List.map_nil, builtin]
    exact (aAppend_sound hR (ha.eval _) (ha.eval _) hK hz).did
  · rename_i d x dT xT h1 h2
    obtain rfl := two_of h1
    obtain rfl := two_of h2
    simp only [List.map_toArray, List.map_cons, List.map_nil, builtin]
    exact (aCopy_sound hR (ha.eval _) (ha.eval _) hK).did
  · rename_i x t h1 h2
    obtain rfl := one_of h1
    obtain rfl := one_of h2
    simp only [List.map_toArray, List.map_cons, List.map_nil, builtin]
    split at hK
    · rename_i kt et hu
      obtain ⟨v, r, h3, h4, h5⟩ := aMapLen_sound (P := P) (ty := ty) hu hR (ha.eval _) hK
      exact ⟨ρ, h, w, v, r, .inl (by rw [Sem.run_bind, h3]; rfl), .refl .., hR, h4, h5⟩
    · exact (aLen_sound hR (ha.eval _) hK).did'
  · rename_i m k mt kt h1 h2
    obtain rfl := two_of h1
    obtain rfl := two_of h2
    simp only [List.map_toArray, List.map_cons, List.map_nil, builtin]
    exact (aDelete_sound hR (ha.eval _) (ha.eval _) hK).did
  · exact (aMax_sound hR (ha.evs args) hK).did'
  · exact (aMin_sound hR (ha.evs args) hK).did'
  · exact hK.elim

theorem aOp_sound {o : Oper} {a : List AVal} {ca : Act} {K : AVal → AHeap → Prop} (hR : Rel ρ h w) (ha : AR G ρ h w a ca) (hK : AOp P o.op o.type a h K) : Did P ρ h w (execOp ca.eval o) K := by
  obtain ⟨dst, op, ty, pos, after, guard⟩ := o
  unfold execOp
  dsimp only at hK ⊢
  cases op with
  | move x => exact ⟨ρ, h, w, _, _, .inl rfl, .refl .., hR, ha.eval _, hK⟩
  | assign x => exact ⟨ρ, h, w, _, _, .inl rfl, .refl .., hR, ha.eval _, hK⟩
  | pick c x y =>
    simp only [AOp] at hK
    split at hK
    · rename_i b hb
      have hc := ha.eval c
      rw [hb] at hc
      generalize hu : ca.eval c = u at hc
      cases hc
      refine ⟨ρ, h, w, _, _, .inl ?_, .refl .., hR, VR.pick (c := b) (ha.eval x) (fun _ => ha.eval y), hK⟩
      simp only [hu, asBool, Sem.run_bind, Sem.run_pure, Result.andThen_ok]
    · exact hK.elim
  | alloc t => simp only [AOp] at hK; exact (aAlloc_sound hR hK).did
  | box t x => simp only [AOp] at hK; exact (aBox_sound hR (ha.eval _) hK).did
  | build t ps => simp only [AOp] at hK; exact (aBuild_sound hR (ha.parts ps) hK).did'
  | buildSlice t len ps => simp only [AOp] at hK; exact (aBuildSlice_sound hR (ha.parts ps) hK).did
  | load t x =>
    obtain ⟨x, y, h1, h2, h3⟩ := aLoad_sound hR (ha.eval _) hK
    exact ⟨ρ, h, w, x, y, .inl (by simp [h1]), .refl .., hR, h2, h3⟩
  | store t p x =>
    obtain ⟨w', h', h1, h2, h3, h4⟩ := aStore_sound hR (ha.eval _) (ha.eval _) hK
    exact ⟨ρ, h', w', .any, undef, .inr ⟨by simp [h1], rfl⟩, h2, h3, .any _, h4⟩
  | nilCheck x =>
    have hx := ha.eval x
    simp only [AOp] at hK
    generalize hu : ca.eval x = u at hx
    split at hK
    · rename_i hb
      rw [hb] at hx
      have hx0 := hx
      cases hx
      exact ⟨ρ, h, w, _, _, .inl (by simp only [hu]; rfl), .refl .., hR, hx0, hK⟩
    · rename_i hb
      rw [hb] at hx
      have hx0 := hx
      cases hx
      exact ⟨ρ, h, w, _, _, .inl (by simp only [hu]; rfl), .refl .., hR, hx0, hK⟩
    · rename_i hb
      rw [hb] at hx
      have hx0 := hx
      cases hx
      exact ⟨ρ, h, w, _, _, .inl (by simp only [hu]; rfl), .refl .., hR, hx0, hK⟩
    · rename_i hb
      rw [hb] at hx
      have hx0 := hx
      cases hx
      exact ⟨ρ, h, w, _, _, .inl (by simp only [hu]; rfl), .refl .., hR, hx0, hK⟩
    · exact hK.elim
  | binOp op xt x y yt =>
    simp only [AOp] at hK
    obtain ⟨z, r, h1, h2, h3⟩ := aBin_sound (P := P) (ha.eval _) (ha.eval _) hK
    refine ⟨ρ, h, w, z, r, .inl ?_, .refl .., hR, h2, h3⟩
    unfold binSem at h1
    rw [Sem.run_bind, h1]; rfl
  | unOp op xt x => simp only [AOp] at hK; exact (aUn_sound hR (ha.eval _) hK).did'
  | convert s d x => simp only [AOp] at hK; exact (aConv_sound hR (ha.eval _) hK).did
  | makeInterface t x => simp only [AOp] at hK; exact (aIface_sound hR (ha.eval _) hK).did'
  | makeFunc f xs ys =>
    have e1 := ha.evs xs
    have e2 := ha.evs ys
    exact ⟨ρ, h, w, _, _, .inl rfl, .refl .., hR, .fn _ _ _ _ _ e1.1 e2.1 e1.2 e2.2, hK⟩
  | makeSlice t l c => simp only [AOp] at hK; exact (aMake_sound hR (ha.eval _) (ha.eval _) hK).did
  | slice t x lo hi mx => simp only [AOp] at hK; exact (aSlice_sound hR (ha.eval _) (VRo.of ha _) (VRo.of ha _) (VRo.of ha _) hK).did'
  | fieldAddr t x i => simp only [AOp] at hK; exact (aField_sound hR (ha.eval _) hK).did'
  | field t x i => simp only [AOp] at hK; exact (aFieldV_sound hR (ha.eval _) hK).did'
  | indexAddr t x i => simp only [AOp] at hK; exact (aIndexAddr_sound hR (ha.eval _) (ha.eval _) hK).did'
  | index t x i => simp only [AOp] at hK; exact (aIndex_sound hR (ha.eval _) (ha.eval _) hK).did'
  | extract x i => simp only [AOp] at hK; exact (aExtract_sound hR (ha.eval _) hK).did'
  | typeAssert x xt t ok => simp only [AOp] at hK; exact (aAssert_sound hR (ha.eval _) hK).did'
  | makeMap t r =>
    cases r with
    | none => simp only [AOp] at hK; exact (aMakeMap_sound hR hK).did
    | some r => exact hK.elim
  | lookup t x k ok =>
    simp only [AOp] at hK
    obtain ⟨v, r, h1, h2, h3⟩ := aLookup_sound (P := P) hR (ha.eval _) (ha.eval _) hK
    exact ⟨ρ, h, w, v, r, .inl (by rw [Sem.run_bind, h1]; rfl), .refl .., hR, h2, h3⟩
  | mapUpdate t m k x =>
    simp only [AOp] at hK
    obtain ⟨w', h', h1, h2, h3, h4⟩ := aMapUpdate_sound (P := P) hR (ha.eval _) (ha.eval _) (ha.eval _) hK
    exact ⟨ρ, h', w', .any, undef, .inr ⟨by simp [h1], rfl⟩, h2, h3, .any _, h4⟩
  | insert t m k x =>
    simp only [AOp] at hK
    obtain ⟨w', h', h1, h2, h3, h4⟩ := aMapUpdate_sound (P := P) hR (ha.eval _) (ha.eval _) (ha.eval _) hK
    exact ⟨ρ, h', w', .any, undef, .inr ⟨by simp [h1], rfl⟩, h2, h3, .any _, h4⟩
  | range t x => simp only [AOp] at hK; exact (aRange_sound hR (ha.eval _) hK).did
  | next it isS =>
    cases isS with
    | true => simp only [AOp] at hK; exact (aNextS_sound hR (ha.eval _) hK).did
    | false => simp only [AOp] at hK; exact (aNextM_sound hR (ha.eval _) hK).did
  | entry it => simp only [AOp] at hK; exact (aEntry_sound hR (ha.eval _) hK).did
  | call c =>
    obtain ⟨callee, args, argTypes⟩ := c
    cases callee with
    | builtin b => exact aBuiltin_sound hR ha hK
    | value f => exact hK.elim
    | invoke r m => exact hK.elim
  | _ => exact hK.elim

end Go.Proofs.Ytglmofbcooefkaa.AL
