/- Slices are cut, made, grown and copied. -/
import Derived.Test.YtglmofbcooefkaaAL8
namespace Go.Proofs.Ytglmofbcooefkaa.AL
set_option linter.unusedVariables false
set_option linter.unusedSimpArgs false
open Go

variable {ρ ρ' : Env} {h h' : AHeap} {w w' : World} {P : Program}

/-- A bound that may be left out. -/
def bnd (x : Option AVal) (d : Int) : Option Int :=
  match x with
  | none => some d
  | some (.lit (.int _ n)) => some n
  | _ => none

def VRo (ρ : Env) (h : AHeap) (w : World) : Option AVal → Option Value → Prop
  | none, none => True
  | some x, some u => VR ρ h w x u
  | _, _ => False

theorem run_bnd {x : Option AVal} {u : Option Value} {d n : Int} (hx : VRo ρ h w x u) (hb : bnd x d = some n) : (u = none ∧ n = d) ∨ ∃ k, u = some (.int k n) := by
  unfold bnd at hb
  split at hb
  · cases u with
    | none => simp at hb; exact .inl ⟨rfl, hb.symm⟩
    | some u => exact hx.elim
  · rename_i k m
    cases u with
    | none => exact hx.elim
    | some u => simp only [Option.some.injEq] at hb; subst hb; cases hx; exact .inr ⟨k, rfl⟩
  · simp at hb

theorem run_bounds {isSlice : Bool} {len cap : Nat} {lo hi mx : Option Value} {l r m : Int} (hlo : (lo = none ∧ l = 0) ∨ ∃ k, lo = some (.int k l)) (hhi : (hi = none ∧ r = len ∧ mx = none) ∨ ∃ k, hi = some (.int k r))
    (hmx : (mx = none ∧ m = cap) ∨ ∃ k, mx = some (.int k m)) (h0 : 0 ≤ l) (h1 : l ≤ r) (h2 : r ≤ m) (h3 : m ≤ cap) :
    (Instr.sliceBounds isSlice len cap lo hi mx).run P w = .ok (l.toNat, r.toNat, m.toNat) w := by
  have e1 : ((m.toNat : Nat) : Int) = m := by omega
  have e2 : ((r.toNat : Nat) : Int) = r := by omega
  rcases hmx with ⟨rfl, rfl⟩ | ⟨km, rfl⟩
  · rcases hhi with ⟨rfl, rfl, _⟩ | ⟨kr, rfl⟩
    · rcases hlo with ⟨rfl, rfl⟩ | ⟨kl, rfl⟩
      · simp [Instr.sliceBounds]
      · simp only [Instr.sliceBounds, Sem.run_bind, Sem.run_pure, Result.andThen_ok, run_sliceBound _ kl l _ _ h0 h1, Int.toNat_natCast]
    · rcases hlo with ⟨rfl, rfl⟩ | ⟨kl, rfl⟩
      · simp only [Instr.sliceBounds, Sem.run_bind, Sem.run_pure, Result.andThen_ok, run_sliceBound _ kr r _ _ (Int.le_trans h0 h1) h2]; rfl
      · simp only [Instr.sliceBounds, Sem.run_bind, Sem.run_pure, Result.andThen_ok, run_sliceBound _ kr r _ _ (Int.le_trans h0 h1) h2, run_sliceBound _ kl l r.toNat _ h0 (by omega)]; rfl
  · rcases hhi with ⟨rfl, rfl, hh⟩ | ⟨kr, rfl⟩
    · simp at hh
    · rcases hlo with ⟨rfl, rfl⟩ | ⟨kl, rfl⟩
      · simp only [Instr.sliceBounds, Sem.run_bind, Sem.run_pure, Result.andThen_ok, run_sliceBound _ km m _ _ (by omega) h3, run_sliceBound _ kr r m.toNat _ (by omega) (by omega)]; rfl
      · simp only [Instr.sliceBounds, Sem.run_bind, Sem.run_pure, Result.andThen_ok, run_sliceBound _ km m _ _ (by omega) h3, run_sliceBound _ kr r m.toNat _ (by omega) (by omega), run_sliceBound _ kl l r.toNat _ h0 (by omega)]

def mxOk (hi mx : Option AVal) (r : Int) (len : Nat) : Prop := match mx with
  | none => True
  | some m => hi.isSome = true ∧ match bnd (some m) 0 with
    | some m => r ≤ m ∧ m ≤ len
    | none => False

/-- 's[lo:hi]' of a text, a slice, an array. -/
def aSlice (P : Program) (t : TypeId) (h : AHeap) (x : AVal) (lo hi mx : Option AVal) (K : AVal → Prop) : Prop :=
  match tyArray P t, tySlice P t with
  | some (n, e), _ => match x, tySize P e, bnd lo 0, bnd hi n with
    | .ptr b o, some k, some l, some r => mx.isNone = true ∧ (match h[b]? with
      | some (.cells cs) => o + n * k ≤ cs.length
      | _ => False) ∧ 0 ≤ l ∧ l ≤ r ∧ r ≤ n ∧ K (.sl k b (o + l.toNat * k) (r - l).toNat)
    | _, _, _, _ => False
  | none, some e => match x, tySize P e with
    | .sl k' b off len, some k => match bnd lo 0, bnd hi len with
      | some l, some r => k' = k ∧ 0 ≤ l ∧ l ≤ r ∧ r ≤ len ∧ mxOk hi mx r len ∧ K (.sl k b (off + l.toNat * k) (r - l).toNat)
      | _, _ => False
    | .ros cs len, some k => match bnd lo 0, bnd hi len with
      | some l, some r => 0 ≤ l ∧ l ≤ r ∧ r ≤ len ∧ mxOk hi mx r len ∧ K (.ros (cs.drop (l.toNat * k)) (r - l).toNat)
      | _, _ => False
    | .lit (.slice none 0 0), some k => match bnd lo 0, bnd hi 0 with
      | some l, some r => l = 0 ∧ r = 0 ∧ mx.isNone = true ∧ K (.lit (.slice none 0 0))
      | _, _ => False
    | _, _ => False
  | none, none => match x with
    | .lit (.string s) => match bnd lo 0, bnd hi s.size with
      | some l, some r => tyString P t = true ∧ mx.isNone = true ∧ 0 ≤ l ∧ l ≤ r ∧ r ≤ s.size ∧ K (.lit (.string (s.extract l.toNat r.toNat)))
      | _, _ => False
    | _ => False

theorem sl_cut {k b off len cap l r m : Nat} (hv : VR ρ h w (.sl k b off len) (.slice (some ⟨(ρ b).blk, (ρ b).base + off, none⟩) len cap)) (hz : (ρ b).base + off + cap * k ≤ (ρ b).size) (h1 : l ≤ r) (h2 : r ≤ m) (h3 : m ≤ cap) (hb : b < h.length) :
    VR ρ h w (.sl k b (off + l * k) (r - l)) (.slice (if m = l then some ⟨(ρ b).blk, (ρ b).base + off, none⟩ else (some ⟨(ρ b).blk, (ρ b).base + off, none⟩ : Option Addr).map (·.add (l * k))) (r - l) (m - l)) := by
  by_cases e : m = l
  · subst e
    obtain rfl : r = m := by omega
    simp only [if_true, Nat.sub_self]
    exact .slZ k b _ _ hb
  · simp only [e, if_false, Option.map_some, add_plain]
    rw [Nat.add_assoc]
    refine .sl k b _ _ (m - l) hb (by omega) ?_
    have : l * k + (m - l) * k ≤ cap * k := by rw [← Nat.add_mul]; exact Nat.mul_le_mul_right k (by omega)
    omega

theorem aSlice_sound {t : TypeId} {x : AVal} {u : Value} {lo hi mx : Option AVal} {lo' hi' mx' : Option Value} {K : AVal → Prop} (hR : Rel ρ h w) (hx : VR ρ h w x u) (hlo : VRo ρ h w lo lo') (hhi : VRo ρ h w hi hi')
    (hmx : VRo ρ h w mx mx') (hK : aSlice P t h x lo hi mx K) : Gives P ρ h w (Instr.sliceAt t u lo' hi' mx') fun v h' => K v ∧ h' = h := by
  have noneOf : ∀ {m : Option AVal} {m' : Option Value}, VRo ρ h w m m' → m.isNone = true → m' = none := by
    intro m m' hm hn
    cases m with
    | none => cases m' with
      | none => rfl
      | some _ => exact hm.elim
    | some _ => simp at hn
  unfold aSlice at hK
  split at hK
  · rename_i n e hu
    have hu := tyArray_some hu
    split at hK
    · rename_i b o k l r hk hl hr
      obtain ⟨hm, hcs, h0, h1, h2, hK⟩ := hK
      obtain rfl := noneOf hmx hm
      cases hx with | ptr _ _ hb =>
      split at hcs
      · rename_i cs hcs'
        obtain ⟨C, T, fz, g1, g2, g3, g4, g5⟩ := hR.obj b _ hcs'
        have hbd := run_bounds (P := P) (w := w) (isSlice := false) (len := n) (cap := n) (mx := none) (m := n) (run_bnd hlo hl) (by rcases run_bnd hhi hr with ⟨a, b⟩ | a; exact .inl ⟨a, b, rfl⟩; exact .inr a) (.inl ⟨rfl, rfl⟩) h0 h1 h2 (by omega)
        have hcap : (ρ b).base + o + n * k ≤ (ρ b).size := by omega
        have hcut := sl_cut (l := l.toNat) (r := r.toNat) (m := n) (.sl k b o n n hb (Nat.le_refl _) hcap : VR ρ h w _ _) hcap (by omega) (by omega) (Nat.le_refl _) hb
        have hlen : (r - l).toNat = r.toNat - l.toNat := by omega
        rw [hlen] at hK
        refine .same hR ?_ hcut ⟨hK, rfl⟩
        simp only [Instr.sliceAt, Sem.run_bind, run_underlying hu, Result.andThen_ok, Instr.sureAddr, Sem.run_pure, hbd, run_sizeOf hk, Int.toNat_natCast]
        congr 2
        split <;> simp_all
      · exact hcs.elim
    · exact hK.elim
  · rename_i e hna hu
    have hu := tySlice_some hu
    have run : ∀ (a : Option Addr) (len cap : Nat) (k : Nat) (l r m : Int), tySize P e = some k → (Instr.sliceBounds true len cap lo' hi' mx').run P w = .ok (l.toNat, r.toNat, m.toNat) w →
        (Instr.sliceAt t (.slice a len cap) lo' hi' mx').run P w = .ok (.slice (if m.toNat = l.toNat then a else a.map (·.add (l.toNat * k))) (r.toNat - l.toNat) (m.toNat - l.toNat)) w := by
      intro a len cap k l r m hk hb
      simp only [Instr.sliceAt, Sem.run_bind, run_underlying hu, Result.andThen_ok, Instr.slice, hb, run_sizeOf hk, Sem.run_pure]
    have third : ∀ {len cap : Nat} {l r : Int}, bnd lo 0 = some l → bnd hi len = some r → 0 ≤ l → l ≤ r → r ≤ len → len ≤ cap → mxOk hi mx r len → ∃ m : Int, r ≤ m ∧ m ≤ cap ∧ (Instr.sliceBounds true len cap lo' hi' mx').run P w = .ok (l.toNat, r.toNat, m.toNat) w := by
      intro len cap l r hl hr h0 h1 h2 h3 hm
      cases mx with
      | none =>
        obtain rfl : mx' = none := by cases mx' with
          | none => rfl
          | some _ => exact hmx.elim
        exact ⟨cap, by omega, by omega, run_bounds (run_bnd hlo hl) (by rcases run_bnd hhi hr with ⟨a, b⟩ | a; exact .inl ⟨a, b, rfl⟩; exact .inr a) (.inl ⟨rfl, rfl⟩) h0 h1 (by omega) (by omega)⟩
      | some mm =>
        obtain ⟨hs, hm⟩ := hm
        split at hm
        · rename_i m hmb
          have hm2 := run_bnd hmx hmb
          have hm3 : ∃ k, mx' = some (.int k m) := by
            rcases hm2 with ⟨a, b⟩ | a
            · subst a; exact hmx.elim
            · exact a
          refine ⟨m, hm.1, by omega, run_bounds (run_bnd hlo hl) ?_ (.inr hm3) h0 h1 hm.1 (by omega)⟩
          rcases run_bnd hhi hr with ⟨a, b⟩ | a
          · subst a
            cases hi with
            | none => simp at hs
            | some _ => exact hhi.elim
          · exact .inr a
        · exact hm.elim
    split at hK
    · rename_i k' b off len k hk
      split at hK
      · rename_i l r hl hr
        obtain ⟨rfl, h0, h1, h2, hm, hK⟩ := hK
        have hlen : (r - l).toNat = r.toNat - l.toNat := by omega
        rw [hlen] at hK
        cases hx with
        | sl _ _ _ _ cap hb hle hcap =>
          obtain ⟨m, m1, m2, hrun⟩ := third hl hr h0 h1 h2 hle hm
          have hcut := sl_cut (l := l.toNat) (r := r.toNat) (m := m.toNat) (.sl k' b off len cap hb hle hcap : VR ρ h w _ _) hcap (by omega) (by omega) (by omega) hb
          exact .same hR (run _ _ _ _ _ _ _ hk hrun) hcut ⟨hK, rfl⟩
        | slZ _ _ _ o hb =>
          obtain ⟨m, m1, m2, hrun⟩ := third hl hr h0 h1 h2 (Nat.le_refl _) hm
          obtain rfl : l = 0 := by omega
          obtain rfl : r = 0 := by omega
          obtain rfl : m = 0 := by omega
          refine .same hR (run _ _ _ _ _ _ _ hk hrun) ?_ ⟨hK, rfl⟩
          simp
          exact .slZ _ _ _ _ hb
      · exact hK.elim
    · rename_i cs len k hk
      split at hK
      · rename_i l r hl hr
        obtain ⟨h0, h1, h2, hm, hK⟩ := hK
        have hlen : (r - l).toNat = r.toNat - l.toNat := by omega
        rw [hlen] at hK
        have hids := hx.ids
        cases hx with
        | ros _ c off _ cap C T fz hle hc hn hs hv =>
          obtain ⟨m, m1, m2, hrun⟩ := third hl hr h0 h1 h2 hle hm
          refine .same hR (run _ _ _ _ _ _ _ hk hrun) ?_ ⟨hK, rfl⟩
          by_cases e : m.toNat = l.toNat
          · have e2 : r.toNat - l.toNat = 0 := by omega
            rw [if_pos e, e2, e, Nat.sub_self]
            cases hids with | ros _ _ hids => exact .rosZ _ (fun v hv => hids v (List.mem_of_mem_drop hv)) _ _
          · rw [if_neg e]
            simp only [Option.map_some, add_plain]
            refine .ros _ c _ _ _ C T fz (by omega) hc hn (fun i hi => ?_) fun i hi => ?_
            · have := hs (l.toNat * k + i) (by simp at hi; omega); omega
            · have := hv (l.toNat * k + i) (by simp at hi; omega)
              simpa [Nat.add_assoc] using this
        | rosZ _ hb a cap =>
          obtain ⟨m, m1, m2, hrun⟩ := third hl hr h0 h1 h2 (Nat.zero_le _) hm
          obtain rfl : l = 0 := by omega
          obtain rfl : r = 0 := by omega
          refine .same hR (run _ _ _ _ _ _ _ hk hrun) ?_ ⟨hK, rfl⟩
          simp
          exact .rosZ _ hb _ _
      · exact hK.elim
    · rename_i k hk
      split at hK
      · rename_i l r hl hr
        obtain ⟨rfl, rfl, hm, hK⟩ := hK
        obtain rfl := noneOf hmx hm
        cases hx
        have hrun := run_bounds (P := P) (w := w) (isSlice := true) (len := 0) (cap := 0) (mx := none) (m := 0) (run_bnd hlo hl) (by rcases run_bnd hhi hr with ⟨a, b⟩ | a; exact .inl ⟨a, b, rfl⟩; exact .inr a) (.inl ⟨rfl, rfl⟩) (by omega) (by omega) (by omega) (by omega)
        refine .same hR (run _ _ _ _ _ _ _ hk hrun) ?_ ⟨hK, rfl⟩
        simp
        exact .lit _
      · exact hK.elim
    · exact hK.elim
  · split at hK
    · rename_i s
      split at hK
      · rename_i l r hl hr
        obtain ⟨ht, hm, h0, h1, h2, hK⟩ := hK
        obtain rfl := noneOf hmx hm
        cases hx
        have hrun := run_bounds (P := P) (w := w) (isSlice := false) (len := s.size) (cap := s.size) (mx := none) (m := s.size) (run_bnd hlo hl) (by rcases run_bnd hhi hr with ⟨a, b⟩ | a; exact .inl ⟨a, b, rfl⟩; exact .inr a) (.inl ⟨rfl, rfl⟩) h0 h1 h2 (by omega)
        refine .same hR (u := .string (s.extract l.toNat r.toNat)) ?_ (.lit _) ⟨hK, rfl⟩
        simp only [Instr.sliceAt, Sem.run_bind, run_underlying (tyString_true ht), Result.andThen_ok, Instr.slice, Option.isSome_none, Bool.false_eq_true, if_false, hrun, Sem.run_pure]
      · exact hK.elim
    · exact hK.elim

end Go.Proofs.Ytglmofbcooefkaa.AL
