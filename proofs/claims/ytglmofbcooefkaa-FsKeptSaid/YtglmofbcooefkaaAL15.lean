/- Weaker states, loops, jumps, ends. -/
import Derived.Test.YtglmofbcooefkaaAL14
namespace Go.Proofs.Ytglmofbcooefkaa.AL
set_option linter.unusedVariables false
set_option linter.unusedSimpArgs false
open Go

variable {G : Rnd} {ρ ρ' : Env} {h h' : AHeap} {w w' : World} {P : Program}

/-- A state that says less. -/
def Weak : List AVal → List AVal → Prop
  | [], [] => True
  | x :: xs, y :: ys => (y = .any ∨ x = y) ∧ Weak xs ys
  | _, _ => False

theorem Weak.refl : ∀ a : List AVal, Weak a a
  | [] => trivial
  | _ :: xs => ⟨.inr rfl, Weak.refl xs⟩

theorem Weak.spec : ∀ {a b : List AVal}, Weak a b → a.length = b.length ∧ ∀ (i : Nat) (h1 : i < a.length) (h2 : i < b.length), b[i] = .any ∨ a[i] = b[i]
  | [], [], _ => ⟨rfl, fun i h1 => by simp at h1⟩
  | x :: xs, y :: ys, hw => by
    obtain ⟨h1, h2⟩ := hw
    obtain ⟨h3, h4⟩ := Weak.spec h2
    refine ⟨by simp [h3], fun i hi hj => ?_⟩
    cases i with
    | zero => exact h1
    | succ i => exact h4 i (by simpa using hi) (by simpa using hj)

theorem AR.weak {a b : List AVal} {ca : Act} (ha : AR G ρ h w a ca) (hw : Weak a b) : AR G ρ h w b ca := by
  obtain ⟨h1, h2⟩ := hw.spec
  refine ⟨h1.symm.trans ha.size, fun i hi => ?_, ha.plain⟩
  rcases h2 i (by omega) hi with h3 | h3
  · rw [h3]; exact .any _
  · rw [← h3]; exact ha.slot i (by omega)

/-- Objects that the call made are let go, in the middle of it: those behind 'n'. -/
def AWk (Q : List AVal → AHeap → Prop) (a : List AVal) (h : AHeap) : Prop := ∃ b, Weak a b ∧ Q b h

theorem awp_weak {c : Code} {Q : AQ} {a b : List AVal} (hw : Weak a b) (hc : AWp P c Q b h) : AWp P c Q a h :=
  fun G ρ w ca hR ha => hc G ρ w ca hR (ha.weak hw)

/-- A state with fewer objects, and slots that say less: what was made on the way is let go. -/
structure Wk (h0 : AHeap) (a : List AVal) (h : AHeap) (b : List AVal) (g : AHeap) : Prop where
  slots : Weak a b
  fewer : Fewer g h
  long : h0.length ≤ g.length
  ids : (∀ v ∈ b, Below g.length v) ∧ ∀ (i : Nat) (o : AObj), g[i]? = some o → ObjBelow g.length o

/-- What holds at a loop's head, told whole (no simp looks into it). -/
def Inv (I : List AVal → AHeap → Prop) (a : List AVal) (h : AHeap) : Prop := I a h

theorem awp_loopw {c : Code} {Q : AQ} {a : List AVal} (I : List AVal → AHeap → Prop) (μ : List AVal → AHeap → Nat) (h₀ : I a h)
    (round : ∀ a h, I a h → AWp P c (AThen (fun a' h' => ∃ b g, Wk h a' h' b g ∧ Inv I b g ∧ μ b g < μ a h) Q) a h) : AWp P (.loop c) Q a h := by
  refine awp_loop I μ h₀ fun a h hI => ?_
  intro G ρ w ca hR ha
  refine wpIn_mono (round a h hI G ρ w ca hR ha) ?_
  rintro e ca' w' ⟨ρ', h', a', ev, hR', ha', hq⟩
  cases e with
  | normal =>
    obtain ⟨b, g, hw, hI', hμ⟩ := hq
    have hb := (ha'.weak hw.slots)
    exact ⟨ρ', g, b, ev.fewer hw.fewer hw.long, hR'.fewer hw.fewer hw.ids.2, ⟨hb.size, fun i hi => (hb.slot i hi).fewer hw.fewer (hw.ids.1 _ (List.getElem_mem hi)), hb.plain.fewer hw.fewer⟩, hI', hμ⟩
  | exit id => exact ⟨ρ', h', a', ev, hR', ha', hq⟩
  | goto l => exact ⟨ρ', h', a', ev, hR', ha', hq⟩
  | ret => exact ⟨ρ', h', a', ev, hR', ha', hq⟩
  | panic c => exact ⟨ρ', h', a', ev, hR', ha', hq⟩
  | outgrown => exact ⟨ρ', h', a', ev, hR', ha', hq⟩

/-- The same, where a round leaves no object of its own. -/
theorem awp_loops {c : Code} {Q : AQ} {a : List AVal} (I : List AVal → AHeap → Prop) (μ : List AVal → AHeap → Nat) (h₀ : ∃ b, Weak a b ∧ I b h)
    (round : ∀ a h, I a h → AWp P c (AThen (fun a' h' => ∃ b, Weak a' b ∧ Inv I b h' ∧ μ b h' < μ a h) Q) a h) : AWp P (.loop c) Q a h := by
  obtain ⟨b, hw, hI⟩ := h₀
  refine awp_weak hw (awp_loop I μ hI fun a h hI => ?_)
  intro G ρ w ca hR ha
  refine wpIn_mono (round a h hI G ρ w ca hR ha) ?_
  rintro e ca' w' ⟨ρ', h', a', ev, hR', ha', hq⟩
  cases e with
  | normal =>
    obtain ⟨b, hw, hI', hμ⟩ := hq
    exact ⟨ρ', h', b, ev, hR', ha'.weak hw, hI', hμ⟩
  | exit id => exact ⟨ρ', h', a', ev, hR', ha', hq⟩
  | goto l => exact ⟨ρ', h', a', ev, hR', ha', hq⟩
  | ret => exact ⟨ρ', h', a', ev, hR', ha', hq⟩
  | panic c => exact ⟨ρ', h', a', ev, hR', ha', hq⟩
  | outgrown => exact ⟨ρ', h', a', ev, hR', ha', hq⟩

theorem awp_cond' {c : Operand} {x y : Code} {Q : AQ} {a : List AVal} (hc : match aEval a c with
    | .lit (.bool b) => (b = true → AWp P x Q a h) ∧ (b = false → AWp P y Q a h)
    | _ => False) : AWp P (.cond c x y) Q a h := by
  split at hc
  · rename_i b hb
    exact awp_cond hb hc.1 hc.2
  · exact hc.elim

/-- A slot's number. -/
def slotI (a : List AVal) (i : Nat) : Int := match aget a i with
  | .lit (.int _ n) => n
  | _ => 0

/-! ### How a call ends -/
mutual
def AVal.closed : AVal → Bool
  | .any => true
  | .lit _ => true
  | .agg vs => closedL vs
  | .tup vs => closedL vs
  | .rop cs => closedL cs
  | .ros cs _ => closedL cs
  | .fn _ vs ws => closedL vs && closedL ws
  | .ifc _ v => v.closed
  | _ => false
def closedL : List AVal → Bool
  | [] => true
  | v :: vs => v.closed && closedL vs
end

mutual
theorem AVal.closed_ids {n : Nat} : ∀ {v : AVal}, v.closed = true → Below n v
  | .any, _ => .any
  | .lit _, _ => .lit _
  | .agg vs, hc => .agg _ (closedL_ids (by simpa [AVal.closed] using hc))
  | .tup vs, hc => .tup _ (closedL_ids (by simpa [AVal.closed] using hc))
  | .rop cs, hc => .rop _ (closedL_ids (by simpa [AVal.closed] using hc))
  | .ros cs _, hc => .ros _ _ (closedL_ids (by simpa [AVal.closed] using hc))
  | .fn _ vs ws, hc => by
    simp only [AVal.closed, Bool.and_eq_true] at hc
    exact .fn _ _ _ (closedL_ids hc.1) (closedL_ids hc.2)
  | .ifc _ v, hc => .ifc _ _ (AVal.closed_ids (by simpa [AVal.closed] using hc))
  | .ptr _ _, hc => by simp [AVal.closed] at hc
  | .sl _ _ _ _, hc => by simp [AVal.closed] at hc
  | .map _, hc => by simp [AVal.closed] at hc
theorem closedL_ids {n : Nat} : ∀ {vs : List AVal}, closedL vs = true → ∀ v ∈ vs, Below n v
  | [], _, v, hv => by simp at hv
  | x :: xs, hc, v, hv => by
    simp only [closedL, Bool.and_eq_true] at hc
    have h1 : Below n x := AVal.closed_ids hc.1
    have h2 : ∀ v ∈ xs, Below n v := closedL_ids hc.2
    rcases List.mem_cons.1 hv with h3 | h3
    · rw [h3]; exact h1
    · exact h2 v h3
end

/-- The objects name what is there. -/
def HOk (h : AHeap) : Prop := ∀ (i : Nat) (o : AObj), h[i]? = some o → ObjBelow h.length o

theorem acalls_of {f : FuncId} {fn : Func} {c : Code} {args : List AVal} {R : AEnd → AHeap → Prop} (hf : P.funcs[f]? = some fn) (hb : fn.body = some c)
    (hc : HOk h → AWp P c (ABody P fn h R) (args ++ List.replicate (fn.ntmps - args.length) .any) h) : ACalls P f args h R :=
  fun ρ w us hR hv => acalls_body hf hb (hc fun i o ho => hR.idsObj ho) ρ w us hR hv

/-- A call that leaves memory as it was, and hands back a value that names nothing. -/
theorem ends_same {h0 : AHeap} {L : List AObj} {v : AVal} {R : AEnd → AHeap → Prop} (hb : HOk h0) (hv : v.closed = true) (hr : R (.ret v) h0) : ABody.AEnds h0 (h0 ++ L) (.ret v) R :=
  ⟨h0, .ret v, Nat.le_refl _, hr, fun ρ w u hR hE => ⟨Fewer.app _ _, hR.fewer (Fewer.app _ _) hb, by cases hE with | ret _ u hv' => exact .ret _ _ (hv'.fewer (Fewer.app _ _) (AVal.closed_ids hv))⟩⟩

theorem ends_here {h0 : AHeap} {v : AVal} {R : AEnd → AHeap → Prop} (hr : R (.ret v) h0) : ABody.AEnds h0 h0 (.ret v) R :=
  ⟨h0, .ret v, Nat.le_refl _, hr, fun ρ w u hR hE => ⟨Fewer.refl _, hR, hE⟩⟩

/-- What a call without a trace comes to. -/
def Pure1 (P : Program) (f : FuncId) (args : List AVal) (v : AVal) : Prop := ∀ h, ACalls P f args h fun e h' => e = .ret v ∧ h' = h

end Go.Proofs.Ytglmofbcooefkaa.AL
