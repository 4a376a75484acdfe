import Derived.Test.YteclkehnppeobaaG4
import Derived.Test.YteclkehnppeobaaG3
import Derived.Test.YteclkehnppeobaaG2
/- strings.Builder: writing and reading, walked; which blocks turn. -/
set_option linter.unusedVariables false
set_option linter.unusedSimpArgs false
namespace Go.Proofs.Yteclkehnppeobaa.AL
open Go Go.RowKit Go.Proofs
variable {P : Program}
theorem ownsF_zero {w : World} {base : Nat} {e : TypeId} {v : Value} {n : Nat} {xs : List Value} (h : w.ownsRowF base e 1 v n xs) : w.ownsRowF 0 e 1 v n xs := by
  refine ⟨h.1, ?_⟩
  rcases h.2 with h | ⟨g, cap, cur, fz, h1, _, r⟩
  · exact .inl h
  · exact .inr ⟨g, cap, cur, fz, h1, Nat.zero_le _, r⟩
/-- An append to a row of one's own: the row it comes to is the old one, or a new one. -/
theorem app_str (w : World) (t u ty e : TypeId) (i : TypeInfo) (ht : P.underlying t = some (.slice e)) (hu : P.underlying u = some .string) (hi : P.info? e = some i) (hz : i.zero = some (.int .u8 0))
    (hsize : i.size = 1) (hby : i.bytes = 1) (v : Value) (n : Nat) (xs : List Value) (hown : w.ownsRowF 0 e 1 v n xs) (s : ByteArray) (h63 : n + s.size ≤ maxLen) (hbytes : n + s.size ≤ 140737488355328) :
    ∃ v' w', (Builtin.append_ #[t, u] ty #[v, .string s]).run P w = .ok v' w' ∧ w'.ownsRowF 0 e 1 v' (n + s.size) (xs ++ Lib.strCells s) ∧ w.grownBy w' v.ownBlock ∧ (∀ g, v'.ownBlock = some g → v.ownBlock = some g ∨ w.heap.size ≤ g) ∧ (v' = .slice none 0 0 ↔ v = .slice none 0 0 ∧ s.size = 0) := by
  rcases hown.2 with ⟨rfl, rfl⟩ | ⟨g, cap, cur, fz, rfl, hbg, hg, hfz, hnc, hcm, hcs, htake⟩
  · obtain ⟨v', w', h1, h2, h3, h4⟩ := Lib.run_append_own_stringF (P := P) w w.heap.size t u ty e i ht hu hi hz hsize hby (.slice none 0 0) 0 xs ⟨hown.1, .inl ⟨rfl, rfl⟩⟩ s h63 hbytes (Nat.le_refl _)
    exact ⟨v', w', h1, ownsF_zero h2, h3, fun g hg => .inr (h2.lt g hg).1, h4⟩
  · obtain ⟨v', w', h1, h2, h3, h4⟩ := Lib.run_append_own_stringF (P := P) w 0 t u ty e i ht hu hi hz hsize hby _ n xs hown s h63 hbytes (Nat.zero_le _)
    refine ⟨v', w', h1, h2, h3, fun g' hg' => ?_, h4⟩
    have hsmall : n + s.size ≤ 9223372036854775807 := by simp only [maxLen] at h63; omega
    have hxl : xs.length = n := by simpa using hown.1
    by_cases hroom : n + s.size ≤ cap
    · have hcs' : cur.size = cap := by simpa using hcs
      have hr := Lib.run_append_room_stringF (P := P) w t u ty e i ht hu hi hsize g n cap cur fz hg (by simpa using hfz) s hroom (by omega)
      rw [h1] at hr
      simp only [Result.ok.injEq] at hr
      rw [hr.1] at hg'
      exact .inl hg'
    · have holds : ∀ j u, xs[j]? = some u → w.cell? ((⟨g, 0, none⟩ : Addr).add j) = some u := hown.cells (g := g) rfl
      have hr := Lib.run_append_grow_string (P := P) w t u ty e i (.int .u8 0) ht hu hi hz ⟨g, 0, none⟩ n cap xs (by rw [hsize]; simpa using hxl) holds s (by omega) (by omega) (by rw [hby]; exact growslice_fits (by omega) (by omega))
      rw [h1] at hr
      simp only [Result.ok.injEq] at hr
      rw [hr.1] at hg'
      simp [Value.ownBlock] at hg'
      exact .inr (by omega)
theorem wpList_app_str {w : World} {ops : Array Oper} {rest : List Oper} {o : Oper} {a : Act} {Q : Exit → Act → World → Prop} (hgd : o.guard = none) (sl x : Operand) (t u : TypeId)
    (ho : o.op = .call { callee := .builtin .append, args := #[sl, x], argTypes := #[t, u] })
    (e : TypeId) (i : TypeInfo) (ht : P.underlying t = some (.slice e)) (hu : P.underlying u = some .string) (hi : P.info? e = some i) (hz : i.zero = some (.int .u8 0)) (hsize : i.size = 1) (hby : i.bytes = 1)
    (v : Value) (n : Nat) (xs : List Value) (hs : a.eval sl = v) (hown : w.ownsRowF 0 e 1 v n xs) (s : ByteArray) (hx : a.eval x = .string s) (h63 : n + s.size ≤ maxLen) (hbytes : n + s.size ≤ 140737488355328)
    (h : ∀ v' w', w'.ownsRowF 0 e 1 v' (n + s.size) (xs ++ Lib.strCells s) → w.grownBy w' v.ownBlock → (∀ g, v'.ownBlock = some g → v.ownBlock = some g ∨ w.heap.size ≤ g) → (v' = .slice none 0 0 ↔ v = .slice none 0 0 ∧ s.size = 0) → wpList P ops Q rest (a.put o.dst v') w') : wpList P ops Q (o :: rest) a w := by
  refine wpList_plain hgd fun K hK => ?_
  obtain ⟨v', w', hr, h2, h3, h4, h5⟩ := app_str (P := P) w t u o.type e i ht hu hi hz hsize hby v n xs hown s h63 hbytes
  unfold Oper.wp execOp
  simp only [ho, resolve, invoke, builtin, Sem.run_bind, Sem.run_pure, Result.andThen_ok, List.map_toArray, List.map_cons, List.map_nil, hs, hx, hr]
  exact hK _ _ (h v' w' h2 h3 h4 h5)
theorem info_u8 : ∃ i, Try.prog.info? 5 = some i ∧ i.zero = some (.int .u8 0) ∧ i.size = 1 ∧ i.bytes = 1 := by
  have h : (Try.prog.info? 5).map (fun i => (i.zero, i.size, i.bytes)) = some (some (.int .u8 0), 1, 1) := by kernel_rfl
  obtain ⟨j, h1, h2⟩ := Option.map_eq_some_iff.1 h
  simp only [Prod.mk.injEq] at h2
  exact ⟨j, h1, h2.1, h2.2.1, h2.2.2⟩
/-- What a call of a builder's leaves alone. -/
structure Lone (w w' : World) (b : Nat) (row : Option Nat) : Prop where
  same : Same w w'
  size : w.heap.size ≤ w'.heap.size
  block : ∀ k, k < w.heap.size → k ≠ b → some k ≠ row → w'.heap[k]? = w.heap[k]?
theorem setCell_row {w : World} {b : Nat} {p q v : Value} (hb : w.heap[b]? = some (.cells #[p, v] 123 (0, 0))) : (w.setCell ⟨b, 0, none⟩ q).heap[b]? = some (.cells #[q, v] 123 (0, 0)) := by
  simp [World.setCell, Array.getElem?_modify, hb]
theorem cc_any (b : Nat) (w : World) {p v : Value} (hb : w.heap[b]? = some (.cells #[p, v] 123 (0, 0))) (hp : p = .pointer none ∨ p = .pointer (some ⟨b, 0, none⟩)) :
    Calls Try.prog 121 #[.pointer (some ⟨b, 0, none⟩)] w fun e w' => e = .returned (.tuple #[]) ∧ w'.heap[b]? = some (.cells #[.pointer (some ⟨b, 0, none⟩), v] 123 (0, 0)) ∧ Same w w' ∧ w'.heap.size = w.heap.size ∧ ∀ k, k ≠ b → w'.heap[k]? = w.heap[k]? := by
  rcases hp with rfl | rfl
  · refine (cc_fresh b w (by rw [Lib.cell_of_heap hb]; rfl) (by simp [World.shape?, hb]) (Lib.frozen_of_heap hb 0)).mono ?_
    rintro e w' ⟨rfl, rfl⟩
    exact ⟨rfl, setCell_row hb, ⟨rfl, rfl, rfl⟩, by simp [World.setCell], fun k hk => Below.heap_setCell _ _ _ _ hk⟩
  · refine (cc_used b w (by rw [Lib.cell_of_heap hb]; rfl)).mono ?_
    rintro e w' ⟨rfl, rfl⟩
    exact ⟨rfl, hb, Same.refl _, rfl, fun _ _ => rfl⟩
set_option maxHeartbeats 2000000 in
set_option maxRecDepth 100000 in
theorem ws_raw (b : Nat) (p v : Value) (bs : List Value) (s : ByteArray) (w : World) (hb : w.heap[b]? = some (.cells #[p, v] 123 (0, 0))) (hp : p = .pointer none ∨ p = .pointer (some ⟨b, 0, none⟩)) (hown0 : w.ownsRowF 0 5 1 v bs.length bs) (hne : v.ownBlock ≠ some b)
    (hlen : bs.length + s.size ≤ 140737488355328) :
    Calls Try.prog 83 #[.pointer (some ⟨b, 0, none⟩), .string s] w fun e w' => e = .returned (.tuple #[.int .i64 s.size, .nilIface]) ∧ ∃ v', w'.heap[b]? = some (.cells #[.pointer (some ⟨b, 0, none⟩), v'] 123 (0, 0)) ∧
      w'.ownsRowF 0 5 1 v' (bs.length + s.size) (bs ++ Lib.strCells s) ∧ (∀ g, v'.ownBlock = some g → v.ownBlock = some g ∨ w.heap.size ≤ g) ∧ (v' = .slice none 0 0 ↔ v = .slice none 0 0 ∧ s.size = 0) ∧ Lone w w' b v.ownBlock := by
  obtain ⟨i0, hi, hz0, hz1, hz2⟩ := info_u8
  have mixed := tmix
  have t123 := Try.underlying123; have a123 := Try.isAgg123; have z123 := Try.sizeOf123; have v123 := Try.zeroValue123; have u123 := fun w => run_underlying (w := w) Try.underlying123
  have t120 := Try.underlying120; have a120 := Try.isAgg120; have z120 := Try.sizeOf120; have v120 := Try.zeroValue120; have u120 := fun w => run_underlying (w := w) Try.underlying120
  have t121 := Try.underlying121; have a121 := Try.isAgg121; have z121 := Try.sizeOf121; have v121 := Try.zeroValue121; have u121 := fun w => run_underlying (w := w) Try.underlying121
  have t3 := Try.underlying3; have a3 := Try.isAgg3; have z3 := Try.sizeOf3; have v3 := Try.zeroValue3; have u3 := fun w => run_underlying (w := w) Try.underlying3
  have t9 := Try.underlying9; have a9 := Try.isAgg9; have z9 := Try.sizeOf9; have v9 := Try.zeroValue9; have u9 := fun w => run_underlying (w := w) Try.underlying9
  have t4 := Try.underlying4; have a4 := Try.isAgg4; have z4 := Try.sizeOf4; have v4 := Try.zeroValue4; have u4 := fun w => run_underlying (w := w) Try.underlying4
  have t189 := Try.underlying189; have a189 := Try.isAgg189; have z189 := Try.sizeOf189; have v189 := Try.zeroValue189; have u189 := fun w => run_underlying (w := w) Try.underlying189
  have t5 := Try.underlying5; have a5 := Try.isAgg5; have z5 := Try.sizeOf5; have v5 := Try.zeroValue5; have u5 := fun w => run_underlying (w := w) Try.underlying5
  go_enter Try.func83, Try.ntmps83
  go_wp2_with (go_at_call 121; refine (cc_any b _ hb hp).mono ?_)
  rintro e w1 ⟨rfl, hbk, hs1, hz, hk1⟩
  have hown : w1.ownsRowF 0 5 1 v bs.length bs := hown0.kept (row := some b) ⟨hs1.1, hs1.2.1, hs1.2.2, by omega, fun k hk hkb => hk1 k (fun e => hkb (by rw [e]))⟩ (.inr hne)
  have c0 : w1.cell? ⟨b, 0, none⟩ = some (.pointer (some ⟨b, 0, none⟩)) := by rw [Lib.cell_of_heap hbk]; rfl
  have c1 : w1.cell? ⟨b, 1, none⟩ = some v := by rw [Lib.cell_of_heap hbk]; rfl
  go_wp2_with (at_builtin; refine wpList_app_str rfl _ _ 121 9 rfl 5 i0 t121 t9 hi hz0 hz1 hz2 _ _ _ rfl hown s rfl ?c3 ?c4 ?_)
  case c3 => unfold maxLen; omega
  case c4 => omega
  intro v' w2 hown' hgrow hnew hnil
  have hlt : b < w1.heap.size := by
    rcases Nat.lt_or_ge b w1.heap.size with h' | h'
    · exact h'
    · simp [Array.getElem?_eq_none h'] at hbk
  have hb2 : w2.heap[b]? = some (.cells #[.pointer (some ⟨b, 0, none⟩), v] 123 (0, 0)) := by
    rw [hgrow.block b hlt (fun e => hne e.symm)]
    exact hbk
  have d0 : w2.cell? ⟨b, 0, none⟩ = some (.pointer (some ⟨b, 0, none⟩)) := by rw [Lib.cell_of_heap hb2]; rfl
  have d1 : w2.cell? ⟨b, 1, none⟩ = some v := by rw [Lib.cell_of_heap hb2]; rfl
  have f1 : w2.frozen? ⟨b, 1, none⟩ = false := Lib.frozen_of_heap hb2 1
  have hne' : v'.ownBlock ≠ some b := fun e => by
    rcases hnew b e with h | h
    · exact hne h
    · omega
  obtain ⟨ao, n', cap, rfl⟩ : ∃ ao n' cap, v' = .slice ao n' cap := by
    rcases hown'.2 with ⟨hv, _⟩ | ⟨g, cap, cur, fz, hv, _⟩
    · exact ⟨_, _, _, hv⟩
    · exact ⟨_, _, _, hv⟩
  go_wp2
  go_ret2
  refine ⟨rfl, _, ?_, hown'.kept (row := some b) ⟨rfl, rfl, rfl, by simp [World.setCell], fun k _ hk => Below.heap_setCell _ _ _ _ (fun e => hk (by simp [e]))⟩ (.inr hne'), fun g hg => ?_, by simpa using hnil, ⟨hs1.trans ⟨hgrow.os, hgrow.tape, hgrow.output⟩, ?_, fun k hk hkb hkr => ?_⟩⟩
  · simp [World.setCell, Array.getElem?_modify, hb2]
  · rcases hnew g hg with h | h
    · exact .inl h
    · exact .inr (by omega)
  · have := hgrow.size; simp [World.setCell]; omega
  · rw [Below.heap_setCell _ _ _ _ hkb, hgrow.block k (by omega) hkr, hk1 k hkb]
theorem freeze_frame (w : World) (g n : Nat) {cur : Array Value} {e : TypeId} {fz : Nat × Nat} (hg : w.heap[g]? = some (.cells cur e fz)) :
    Same w (w.freeze ⟨g, 0, none⟩ n) ∧ (w.freeze ⟨g, 0, none⟩ n).heap.size = w.heap.size ∧ (∀ k, k ≠ g → (w.freeze ⟨g, 0, none⟩ n).heap[k]? = w.heap[k]?) ∧ ∀ r, (w.freeze ⟨g, 0, none⟩ n).heap[g]? ≠ some (.loop r) := by
  unfold World.freeze
  split
  · exact ⟨Same.refl _, rfl, fun _ _ => rfl, fun r hr => by rw [hg] at hr; cases hr⟩
  · refine ⟨⟨rfl, rfl, rfl⟩, by simp, fun k hk => ?_, fun r hr => ?_⟩
    · simp only [Array.getElem?_modify]
      rw [if_neg (fun e => hk e.symm)]
    · simp only [Array.getElem?_modify, if_true, hg, Option.map_some] at hr
      cases hr
set_option maxHeartbeats 2000000 in
set_option maxRecDepth 100000 in
theorem bs_nil (b : Nat) (p : Value) (w : World) (hbk : w.heap[b]? = some (.cells #[p, .slice none 0 0] 123 (0, 0))) :
    Calls Try.prog 86 #[.pointer (some ⟨b, 0, none⟩)] w fun e w' => e = .returned (.string ⟨#[]⟩) ∧ Same w w' ∧ w'.heap = w.heap := by
  have c1 : w.drew.cell? ⟨b, 1, none⟩ = some (.slice none 0 0) := by
    have : w.drew.heap[b]? = some (.cells #[p, .slice none 0 0] 123 (0, 0)) := hbk
    rw [Lib.cell_of_heap this]; rfl
  have hSD : (Builtin.unsafeSliceData_ #[121] 166 #[.slice none 0 0]).run Try.prog w.drew = .ok (.pointer none) w.drew := rfl
  have hUS : (Builtin.unsafeString_ #[166, 3] 9 #[.pointer none, .int .i64 0]).run Try.prog w.drew = .ok (.string .empty) w.drew := Lib.run_unsafeString_none _ _ _ _ _
  have mixed := tmix
  have t123 := Try.underlying123; have a123 := Try.isAgg123; have z123 := Try.sizeOf123; have v123 := Try.zeroValue123; have u123 := fun w => run_underlying (w := w) Try.underlying123
  have t120 := Try.underlying120; have a120 := Try.isAgg120; have z120 := Try.sizeOf120; have v120 := Try.zeroValue120; have u120 := fun w => run_underlying (w := w) Try.underlying120
  have t121 := Try.underlying121; have a121 := Try.isAgg121; have z121 := Try.sizeOf121; have v121 := Try.zeroValue121; have u121 := fun w => run_underlying (w := w) Try.underlying121
  have t166 := Try.underlying166; have a166 := Try.isAgg166; have z166 := Try.sizeOf166; have v166 := Try.zeroValue166; have u166 := fun w => run_underlying (w := w) Try.underlying166
  have t3 := Try.underlying3; have a3 := Try.isAgg3; have z3 := Try.sizeOf3; have v3 := Try.zeroValue3; have u3 := fun w => run_underlying (w := w) Try.underlying3
  have t9 := Try.underlying9; have a9 := Try.isAgg9; have z9 := Try.sizeOf9; have v9 := Try.zeroValue9; have u9 := fun w => run_underlying (w := w) Try.underlying9
  have t5 := Try.underlying5; have a5 := Try.isAgg5; have z5 := Try.sizeOf5; have v5 := Try.zeroValue5; have u5 := fun w => run_underlying (w := w) Try.underlying5
  go_enter Try.func86, Try.ntmps86
  go_wp2
  go_region_o
  all_goals (go_wp2; go_ret; exact ⟨rfl, ⟨rfl, rfl, rfl⟩, rfl⟩)
set_option maxHeartbeats 2000000 in
set_option maxRecDepth 100000 in
theorem bs_raw (b g cap : Nat) (p : Value) (cur : Array Value) (fz : Nat × Nat) (l : List UInt8) (w : World) (hbk : w.heap[b]? = some (.cells #[p, .slice (some ⟨g, 0, none⟩) l.length cap] 123 (0, 0))) (hg : w.heap[g]? = some (.cells cur 5 fz)) (h0 : l ≠ [])
    (hcap : l.length ≤ cap) (hcs : cur.size = cap) (hm : cap ≤ maxLen) (hcur : cur.toList.take l.length = l.map fun b => .int .u8 b.toNat) :
    Calls Try.prog 86 #[.pointer (some ⟨b, 0, none⟩)] w fun e w' => e = .returned (.string ⟨l.toArray⟩) ∧ Same w w' ∧ w'.heap.size = w.heap.size ∧ (∀ k, k ≠ g → w'.heap[k]? = w.heap[k]?) ∧ ∀ r, w'.heap[g]? ≠ some (.loop r) := by
  have hl0 : l.length ≠ 0 := by simpa using h0
  have c1 : w.drew.cell? ⟨b, 1, none⟩ = some (.slice (some ⟨g, 0, none⟩) l.length cap) := by
    have : w.drew.heap[b]? = some (.cells #[p, .slice (some ⟨g, 0, none⟩) l.length cap] 123 (0, 0)) := hbk
    rw [Lib.cell_of_heap this]; rfl
  have hg' : w.drew.heap[g]? = some (.cells cur 5 fz) := hg
  have hSD : (Builtin.unsafeSliceData_ #[121] 166 #[.slice (some ⟨g, 0, none⟩) l.length cap]).run Try.prog w.drew = .ok (.pointer (some ⟨g, 0, none⟩)) w.drew :=
    Lib.run_unsafeSliceData_row _ _ _ _ _ _ (by omega)
  have hUS : (Builtin.unsafeString_ #[166, 3] 9 #[.pointer (some ⟨g, 0, none⟩), .int .i64 l.length]).run Try.prog w.drew = .ok (.string ⟨l.toArray⟩) (w.drew.freeze ⟨g, 0, none⟩ l.length) := by
    refine Lib.run_unsafeString_row w.drew 166 3 9 5 Try.underlying166 (by kernel_rfl) g cur.size (by simp [World.shape?, hg']) l h0 (by omega) (by unfold maxLen at hm; omega) ?_
    intro j x hx
    have hadd : (⟨g, 0, none⟩ : Addr).add j = ⟨g, j, none⟩ := by unfold Addr.add; split <;> simp_all
    have hj : j < l.length := (List.getElem?_eq_some_iff.1 hx).1
    have : cur.toList[j]? = some (.int .u8 x.toNat) := by
      have e : (cur.toList.take l.length)[j]? = cur.toList[j]? := List.getElem?_take_of_lt hj
      rw [← e, hcur, List.getElem?_map, hx]; rfl
    rw [hadd]
    simpa [World.cell?, hg'] using this
  have mixed := tmix
  have t123 := Try.underlying123; have a123 := Try.isAgg123; have z123 := Try.sizeOf123; have v123 := Try.zeroValue123; have u123 := fun w => run_underlying (w := w) Try.underlying123
  have t120 := Try.underlying120; have a120 := Try.isAgg120; have z120 := Try.sizeOf120; have v120 := Try.zeroValue120; have u120 := fun w => run_underlying (w := w) Try.underlying120
  have t121 := Try.underlying121; have a121 := Try.isAgg121; have z121 := Try.sizeOf121; have v121 := Try.zeroValue121; have u121 := fun w => run_underlying (w := w) Try.underlying121
  have t166 := Try.underlying166; have a166 := Try.isAgg166; have z166 := Try.sizeOf166; have v166 := Try.zeroValue166; have u166 := fun w => run_underlying (w := w) Try.underlying166
  have t3 := Try.underlying3; have a3 := Try.isAgg3; have z3 := Try.sizeOf3; have v3 := Try.zeroValue3; have u3 := fun w => run_underlying (w := w) Try.underlying3
  have t9 := Try.underlying9; have a9 := Try.isAgg9; have z9 := Try.sizeOf9; have v9 := Try.zeroValue9; have u9 := fun w => run_underlying (w := w) Try.underlying9
  have t5 := Try.underlying5; have a5 := Try.isAgg5; have z5 := Try.sizeOf5; have v5 := Try.zeroValue5; have u5 := fun w => run_underlying (w := w) Try.underlying5
  go_enter Try.func86, Try.ntmps86
  go_wp2
  go_region_o
  all_goals (go_wp2; go_ret; exact ⟨rfl, freeze_frame w.drew g _ hg'⟩)
end Go.Proofs.Yteclkehnppeobaa.AL
/- strings.Builder over abstract values: what is written is held, what is held is read. -/
set_option linter.unusedVariables false
set_option linter.unusedSimpArgs false
namespace Go.Proofs.Yteclkehnppeobaa.AL
open Go Go.RowKit Go.Proofs
variable {ρ : Env} {h : AHeap} {w w' : World}
def kill (h : AHeap) (k : Option Nat) : AHeap := match k with
  | none => h
  | some k => h.set k .dead
theorem kill_len (h : AHeap) (k : Option Nat) : (kill h k).length = h.length := by cases k <;> simp [kill]
theorem kill_get {h : AHeap} {k : Option Nat} {c : Nat} {o : AObj} (hc : (kill h k)[c]? = some o) (hd : o ≠ .dead) : k ≠ some c ∧ h[c]? = some o := by
  cases k with
  | none => exact ⟨by simp, hc⟩
  | some k =>
    unfold kill at hc
    by_cases e : k = c
    · subst e
      have hl : k < h.length := by have := lt_of_getL hc; simpa using this
      rw [List.getElem?_set_self hl] at hc
      cases hc; exact (hd rfl).elim
    · rw [List.getElem?_set_ne e] at hc
      exact ⟨by simpa using e, hc⟩
theorem bld_grow (hR : Rel ρ h w) {b : Nat} {T U : TypeId} {k : Option Nat} {n n' cap g : Nat} {p v : Value} {bs : List UInt8} (hb : h[b]? = some (.bld T k n)) (hk : ∀ k', k = some k' → k' ≠ b ∧ ∃ xs, h[k']? = some (.buf U xs))
    (hL : Lone w w' (ρ b).blk (k.map fun k' => (ρ k').blk)) (hg : (∃ k', k = some k' ∧ g = (ρ k').blk) ∨ w.heap.size ≤ g) (hbase : (ρ b).base = 0)
    (hw : w'.heap[(ρ b).blk]? = some (.cells #[p, v] T (0, 0))) (hp : p = .pointer none ∨ p = .pointer (some ⟨(ρ b).blk, 0, none⟩)) (hv : v = .slice (some ⟨g, 0, none⟩) n' cap) (hbuf : BufR w' U bs ⟨g, 0, cap⟩) :
    Evo ρ h w (ext ρ h.length ⟨g, 0, cap⟩) ((kill h k).set b (.bld T (some h.length) n') ++ [.buf U bs]) w' ∧ Rel (ext ρ h.length ⟨g, 0, cap⟩) ((kill h k).set b (.bld T (some h.length) n') ++ [.buf U bs]) w' := by
  have hbl := lt_of_getL hb
  have hlen : ((kill h k).set b (.bld T (some h.length) n')).length = h.length := by simp [kill_len]
  -- what lies there now
  have old : ∀ c o, ((kill h k).set b (.bld T (some h.length) n') ++ [.buf U bs])[c]? = some o → o ≠ .dead →
      (c < h.length ∧ c ≠ b ∧ k ≠ some c ∧ h[c]? = some o ∧ ext ρ h.length ⟨g, 0, cap⟩ c = ρ c) ∨ (c = b ∧ o = .bld T (some h.length) n' ∧ ext ρ h.length ⟨g, 0, cap⟩ c = ρ b) ∨ (c = h.length ∧ o = .buf U bs ∧ ext ρ h.length ⟨g, 0, cap⟩ c = ⟨g, 0, cap⟩) := by
    intro c o hc hd
    rcases Nat.lt_or_ge c h.length with hlt | hge
    · rw [List.getElem?_append_left (by omega)] at hc
      by_cases hcb : c = b
      · subst hcb
        rw [List.getElem?_set_self (by rw [kill_len]; exact hlt)] at hc
        cases hc
        exact .inr (.inl ⟨rfl, rfl, by simp [ext, Nat.ne_of_lt hlt]⟩)
      · rw [List.getElem?_set_ne (Ne.symm hcb)] at hc
        obtain ⟨h1, h2⟩ := kill_get hc hd
        exact .inl ⟨hlt, hcb, h1, h2, by simp [ext, Nat.ne_of_lt hlt]⟩
    · have : c < ((kill h k).set b (.bld T (some h.length) n') ++ [AObj.buf U bs]).length := lt_of_getL hc
      have hce : c = h.length := by simp [kill_len] at this; omega
      subst hce
      rw [List.getElem?_append_right (by omega), hlen, Nat.sub_self] at hc
      simp at hc
      exact .inr (.inr ⟨rfl, hc.symm, by simp [ext]⟩)
  have hbd : AObj.bld T k n ≠ .dead := by simp
  have gcells : ∃ C fz, w'.heap[g]? = some (.cells C U fz) := let ⟨_, C, fz, h1, _⟩ := hbuf; ⟨C, fz, h1⟩
  have other : ∀ c o, h[c]? = some o → o ≠ .dead → c ≠ b → k ≠ some c → w'.heap[(ρ c).blk]? = w.heap[(ρ c).blk]? := fun c o hc hd hcb hck => by
    refine hL.block _ (hR.blk_lt hc hd) (fun e => hcb (hR.inj _ _ _ _ hc hb hd hbd e)) fun e => ?_
    cases k with
    | none => simp at e
    | some k' =>
      obtain ⟨_, xs, hx⟩ := hk k' rfl
      simp only [Option.map_some, Option.some.injEq] at e
      exact hck (by rw [hR.inj _ _ _ _ hc hx hd (by simp) e])
  have gnot : ∀ c o, h[c]? = some o → o ≠ .dead → k ≠ some c → (ρ c).blk ≠ g := fun c o hc hd hck e => by
    rcases hg with ⟨k', rfl, rfl⟩ | hg
    · obtain ⟨_, xs, hx⟩ := hk k' rfl
      exact hck (by rw [hR.inj _ _ _ _ hc hx hd (by simp) e])
    · have := hR.blk_lt hc hd; omega
  have bnk : k ≠ some b := fun e => (hk b e).1 rfl
  have ev : Evo ρ h w (ext ρ h.length ⟨g, 0, cap⟩) ((kill h k).set b (.bld T (some h.length) n') ++ [.buf U bs]) w' := by
    refine ⟨by simp [kill_len], fun c hc => by simp [ext, Nat.ne_of_lt hc], hL.size, hL.same, fun c hc hn => ⟨?_, ?_⟩, fun l r hr => ?_⟩
    · refine hL.block c hc (fun e => hn ⟨b, _, hb, hbd, e.symm⟩) fun e => ?_
      cases k with
      | none => simp at e
      | some k' =>
        obtain ⟨_, xs, hx⟩ := hk k' rfl
        simp only [Option.map_some, Option.some.injEq] at e
        exact hn ⟨k', _, hx, by simp, e.symm⟩
    · rintro ⟨b2, o2, hb2, hd2, he⟩
      rcases old b2 o2 hb2 hd2 with ⟨_, _, _, h4, h5⟩ | ⟨_, _, h5⟩ | ⟨_, _, h5⟩
      · rw [h5] at he; exact hn ⟨b2, o2, h4, hd2, he⟩
      · rw [h5] at he; exact hn ⟨b, _, hb, hbd, he⟩
      · rw [h5] at he
        have he : g = c := he
        subst he
        rcases hg with ⟨k', rfl, rfl⟩ | hg
        · obtain ⟨_, xs, hx⟩ := hk k' rfl
          exact hn ⟨k', _, hx, by simp, rfl⟩
        · omega
    · refine ⟨r, ?_⟩
      rw [hL.block l (lt_of_get hr) (fun e => ?_) (fun e => ?_)]
      · exact hr
      · obtain ⟨_, p0, v0, h1, _⟩ := hR.obj b _ hb
        rw [e, h1] at hr; cases hr
      · cases k with
        | none => simp at e
        | some k' =>
          obtain ⟨_, xs, hx⟩ := hk k' rfl
          obtain ⟨_, C, fz, h1, _⟩ := hR.obj k' _ hx
          simp only [Option.map_some, Option.some.injEq] at e
          rw [e, h1] at hr; cases hr
  refine ⟨ev, hR.glob.evo ev, fun c o hc => ?_, fun c c' o1 o2 h1 h2 d1 d2 he => ?_⟩
  · by_cases hd : o = .dead
    · subst hd; trivial
    rcases old c o hc hd with ⟨_, h2, h3, h4, h5⟩ | ⟨rfl, rfl, h5⟩ | ⟨rfl, rfl, h5⟩
    · rw [h5]; exact (hR.obj c o h4).evo ev fun hd => other c o h4 hd h2 h3
    · rw [h5]
      exact ⟨hbase, p, v, hw, hp, by simp [kill_len], by rw [ext_self]; exact hv⟩
    · rw [h5]; exact hbuf
  · rcases old c o1 h1 d1 with ⟨_, a2, a3, a4, a5⟩ | ⟨rfl, rfl, a5⟩ | ⟨rfl, rfl, a5⟩ <;> rcases old c' o2 h2 d2 with ⟨_, b2, b3, b4, b5⟩ | ⟨rfl, rfl, b5⟩ | ⟨rfl, rfl, b5⟩ <;> (have he := (congrArg Loc.blk a5).symm.trans (he.trans (congrArg Loc.blk b5)))
    · exact hR.inj _ _ _ _ a4 b4 d1 d2 he
    · exact hR.inj _ _ _ _ a4 hb d1 hbd he
    · exact (gnot c o1 a4 d1 a3 he).elim
    · exact hR.inj _ _ _ _ hb b4 hbd d2 he
    · rfl
    · exact (gnot _ _ hb hbd bnk he).elim
    · exact (gnot c' o2 b4 d2 b3 he.symm).elim
    · exact (gnot _ _ hb hbd bnk he.symm).elim
    · rfl

/-! ### The calls -/
def bytesV (l : List UInt8) : List Value := l.map fun b => .int .u8 b.toNat
def wroteV (s : ByteArray) : AVal := .tup [.lit (.int .i64 s.size), .lit .nilIface]
/-- A builder in the memory. -/
inductive Bld (h : AHeap) (b : Nat) : List UInt8 → Prop
  | fresh (hb : h[b]? = some (.bld 123 none 0)) : Bld h b []
  | held (k : Nat) (bs : List UInt8) (hb : h[b]? = some (.bld 123 (some k) bs.length)) (hk : h[k]? = some (.buf 5 bs)) (h0 : bs ≠ []) : Bld h b bs
def bldW (h : AHeap) (p : AVal) (s : ByteArray) : Option (AVal × AHeap) := match p with
  | .ptr b 0 => match h[b]? with
    | some (.bld T k n) => (req (T = 123 ∧ s.size ≠ 0 ∧ n + s.size ≤ 140737488355328)).bind fun _ => match k with
      | none => (req (n = 0)).bind fun _ => some (wroteV s, (h.set b (.bld 123 (some h.length) s.size)) ++ [.buf 5 s.data.toList])
      | some k => match h[k]? with
        | some (.buf U bs) => (req (U = 5 ∧ bs.length = n)).bind fun _ => some (wroteV s, ((h.set k .dead).set b (.bld 123 (some h.length) (n + s.size))) ++ [.buf 5 (bs ++ s.data.toList)])
        | _ => none
    | _ => none
  | _ => none
theorem cap_one {x : Nat} : x * 1 = x := Nat.mul_one x
theorem strCells_bytes (s : ByteArray) : Lib.strCells s = bytesV s.data.toList := rfl
theorem bld_write {p : AVal} {s : ByteArray} {r : AVal × AHeap} (hx : bldW h p s = some r) : ACalls Try.prog 83 [p, .lit (.string s)] h fun e g => e = .ret r.1 ∧ g = r.2 := by
  unfold bldW at hx
  split at hx
  rotate_left
  · cases hx
  rename_i b
  split at hx
  rotate_left
  · cases hx
  rename_i T k n hb
  obtain ⟨_, hT, hx1⟩ := Option.bind_eq_some_iff.1 hx
  clear hx
  obtain ⟨rfl, h0, hsz⟩ := req_some hT
  intro ρ w us hR hv
  obtain ⟨hl, hv⟩ := hv
  obtain ⟨us⟩ := us
  match us, hl with
  | [u0, u1], _ =>
  have hv0 := hv 0 (by simp)
  have hv1 := hv 1 (by simp)
  simp only [List.getElem_cons_zero, List.getElem_cons_succ] at hv0 hv1
  obtain ⟨hbase, p0, v0, hh, hp0, hm⟩ := hR.obj b _ hb
  have e0 : u0 = .pointer (some ⟨(ρ b).blk, 0, none⟩) := by
    generalize hq : ((#[u0, u1] : Array Value).getD 0 undef) = q at hv0
    have : q = u0 := by rw [← hq]; rfl
    subst this
    cases hv0 with
    | ptr => rw [hbase]
  have e1 : u1 = .string s := by
    generalize hq : ((#[u0, u1] : Array Value).getD 1 undef) = q at hv1
    have : q = u1 := by rw [← hq]; rfl
    subst this
    cases hv1; rfl
  subst e0 e1
  have hbd : AObj.bld 123 k n ≠ .dead := by simp
  have ret : ∀ (ρ' : Env) (h' : AHeap) (w' : World), EndR ρ' h' w' (.ret (wroteV s)) (.returned (.tuple #[.int .i64 s.size, .nilIface])) := fun ρ' h' w' =>
    .ret _ _ (.tup _ _ rfl fun i hi => by
      match i, hi with
      | 0, _ => exact .lit _
      | 1, _ => exact .lit _)
  -- the row that it comes to
  have done : ∀ (bs : List UInt8), bs.length = n → (∀ k', k = some k' → k' ≠ b ∧ h[k']? = some (.buf 5 bs)) → w.ownsRowF 0 5 1 v0 n (bytesV bs) → v0.ownBlock = k.map (fun k' => (ρ k').blk) → v0.ownBlock ≠ some (ρ b).blk →
      Calls Try.prog 83 #[.pointer (some ⟨(ρ b).blk, 0, none⟩), .string s] w fun e w' => ∃ ρ' h' e', Evo ρ h w ρ' h' w' ∧ Rel ρ' h' w' ∧ EndR ρ' h' w' e' e ∧ e' = .ret (wroteV s) ∧ h' = (kill h k).set b (.bld 123 (some h.length) (n + s.size)) ++ [.buf 5 (bs ++ s.data.toList)] := by
    intro bs hbs hkk hown hob hne
    have hbl : (bytesV bs).length = n := by simp [bytesV, hbs]
    refine (ws_raw (ρ b).blk p0 v0 (bytesV bs) s w hh hp0 (by rw [hbl]; exact hown) hne (by rw [hbl]; exact hsz)).mono ?_
    rintro e w' ⟨rfl, v', a1, a2, a3, a4, a5⟩
    rw [hbl] at a2
    rcases a2.2 with ⟨hv', _⟩ | ⟨g, cap, cur, fz, hv', _, hg, hfz, hnc, hcm, hcs, htake⟩
    · exact (h0 (a4.1 hv').2).elim
    · have hgo : (∃ k', k = some k' ∧ g = (ρ k').blk) ∨ w.heap.size ≤ g := by
        rcases a3 g (by rw [hv']; rfl) with h | h
        · rw [hob] at h
          cases k with
          | none => simp at h
          | some k' => exact .inl ⟨k', rfl, by simpa using h.symm⟩
        · exact .inr h
      have hsl : s.data.toList.length = s.size := Array.length_toList
      have hbuf : BufR w' 5 (bs ++ s.data.toList) ⟨g, 0, cap⟩ := by
        refine ⟨rfl, cur, fz, hg, by simpa using hcs, by simp [hbs, hsl]; omega, by simp [hbs, hsl]; omega, hcm, ?_⟩
        rw [show (bs ++ s.data.toList).length = (n + s.size) * 1 by simp [hbs, hsl], htake]
        simp [bytesV, strCells_bytes]
      obtain ⟨ev, R'⟩ := bld_grow (T := 123) (U := 5) (k := k) (n' := n + s.size) hR hb (fun k' hk' => let ⟨x1, x2⟩ := hkk k' hk'; ⟨x1, bs, x2⟩) (by rw [← hob]; exact a5) hgo hbase a1 (.inr rfl) hv' hbuf
      exact ⟨_, _, _, ev, R', ret _ _ _, rfl, rfl⟩
  cases k with
  | none =>
    obtain ⟨_, hq, hx2⟩ := Option.bind_eq_some_iff.1 hx1
    obtain rfl := req_some hq
    obtain ⟨rfl, _⟩ := hm
    cases hx2
    refine (done [] rfl (fun k' hk' => by cases hk') (World.ownsRowF_nil w 0 5 1) rfl (by simp [Value.ownBlock])).mono ?_
    rintro e w' ⟨ρ', h', e', x1, x2, x3, x4, x5⟩
    refine ⟨ρ', h', e', x1, x2, x3, x4, x5.trans ?_⟩
    simp [kill]
  | some k =>
    simp only at hx1
    split at hx1
    rotate_left
    · cases hx1
    rename_i U bs hk
    obtain ⟨_, hq, hx2⟩ := Option.bind_eq_some_iff.1 hx1
    obtain ⟨rfl, hn⟩ := req_some hq
    cases hx2
    obtain ⟨hkl, rfl⟩ := hm
    obtain ⟨kb, C, fz, c1, c2, c3, c4, c5, c6⟩ := hR.obj k _ hk
    have hkb : k ≠ b := fun e => by rw [e, hb] at hk; cases hk
    refine (done bs hn (fun k' hk' => by cases hk'; exact ⟨hkb, hk⟩) ⟨by simp [bytesV, hn], .inr ⟨_, _, C, fz, rfl, Nat.zero_le _, c1, by omega, by omega, c5, by omega, by rw [Nat.mul_one, ← hn]; exact c6⟩⟩ rfl ?_).mono ?_
    · simp only [Value.ownBlock, ne_eq, Option.some.injEq]
      exact fun e => hkb (hR.inj _ _ _ _ hk hb (by simp) hbd e)
    · rintro e w' ⟨ρ', h', e', x1, x2, x3, x4, x5⟩
      exact ⟨ρ', h', e', x1, x2, x3, x4, x5⟩
theorem Bld.write {h : AHeap} {b : Nat} {l : List UInt8} (B : Bld h b l) {s : ByteArray} (h0 : s.size ≠ 0) (hn : l.length + s.size ≤ 140737488355328) :
    ∃ h', bldW h (.ptr b 0) s = some (wroteV s, h') ∧ Bld h' b (l ++ s.data.toList) ∧ (∀ c, c < h.length → c ≠ b → (∀ T bs, h[c]? ≠ some (.buf T bs)) → h'[c]? = h[c]?) ∧ h'.length = h.length + 1 := by
  have hsl : s.data.toList.length = s.size := Array.length_toList
  have hs0 : s.data.toList ≠ [] := fun e => by rw [e] at hsl; simp at hsl; exact h0 hsl.symm
  cases B with
  | fresh hb =>
    have hbl := lt_of_getL hb
    refine ⟨(h.set b (.bld 123 (some h.length) s.size)) ++ [.buf 5 s.data.toList], ?_, .held h.length _ ?_ ?_ (by simpa using hs0), fun c hc hcb _ => ?_, by simp⟩
    · unfold bldW
      simp only [hb]
      rw [req_true (⟨trivial, h0, by simpa using hn⟩ : True ∧ s.size ≠ 0 ∧ 0 + s.size ≤ 140737488355328), req_true trivial]
      rfl
    · rw [List.getElem?_append_left (by simpa using hbl), List.getElem?_set_self hbl]; simp [hsl]
    · rw [List.getElem?_append_right (by simp)]; simp
    · rw [List.getElem?_append_left (by simpa using hc), List.getElem?_set_ne (Ne.symm hcb)]
  | held k _ hb hk hl0 =>
    have hbl := lt_of_getL hb
    have hkb : k ≠ b := fun e => by rw [e, hb] at hk; cases hk
    refine ⟨((h.set k .dead).set b (.bld 123 (some h.length) (l.length + s.size))) ++ [.buf 5 (l ++ s.data.toList)], ?_, .held h.length _ ?_ ?_ (by simp [hl0]), fun c hc hcb hcd => ?_, by simp⟩
    · unfold bldW
      simp only [hb]
      rw [req_true (⟨trivial, h0, hn⟩ : True ∧ s.size ≠ 0 ∧ l.length + s.size ≤ 140737488355328)]
      simp only [Option.bind_some, hk]
      rw [req_true (⟨trivial, trivial⟩ : True ∧ True)]
      rfl
    · rw [List.getElem?_append_left (by simpa using hbl), List.getElem?_set_self (by simpa using hbl)]; simp [hsl]
    · rw [List.getElem?_append_right (by simp)]; simp
    · rw [List.getElem?_append_left (by simpa using hc), List.getElem?_set_ne (Ne.symm hcb), List.getElem?_set_ne (fun e => by subst e; exact hcd _ _ hk)]
def bldS (h : AHeap) (p : AVal) : Option (AVal × AHeap) := match p with
  | .ptr b 0 => match h[b]? with
    | some (.bld T k n) => (req (T = 123)).bind fun _ => match k with
      | none => (req (n = 0)).bind fun _ => some (.lit (.string ⟨#[]⟩), h)
      | some k => match h[k]? with
        | some (.buf U bs) => (req (U = 5 ∧ bs.length = n ∧ bs ≠ [])).bind fun _ => some (.lit (.string ⟨bs.toArray⟩), h.set k .dead)
        | _ => none
    | _ => none
  | _ => none
theorem bld_string {p : AVal} {r : AVal × AHeap} (hx : bldS h p = some r) : ACalls Try.prog 86 [p] h fun e g => e = .ret r.1 ∧ g = r.2 := by
  unfold bldS at hx
  split at hx
  rotate_left
  · cases hx
  rename_i b
  split at hx
  rotate_left
  · cases hx
  rename_i T k n hb
  obtain ⟨_, hT, hx1⟩ := Option.bind_eq_some_iff.1 hx
  clear hx
  obtain rfl := req_some hT
  intro ρ w us hR hv
  obtain ⟨u, rfl, hu⟩ := hv.single
  obtain ⟨hbase, p0, v0, hh, hp0, hm⟩ := hR.obj b _ hb
  have e0 : u = .pointer (some ⟨(ρ b).blk, 0, none⟩) := by cases hu with | ptr => rw [hbase]
  subst e0
  cases k with
  | none =>
    obtain ⟨_, hq, hx2⟩ := Option.bind_eq_some_iff.1 hx1
    cases hx2
    obtain ⟨rfl, _⟩ := hm
    refine (bs_nil (ρ b).blk p0 w hh).mono ?_
    rintro e w' ⟨rfl, hs, hw⟩
    obtain ⟨R', ev⟩ := hR.like hs hw
    exact ⟨ρ, h, _, ev, R', .ret _ _ (.lit _), rfl, rfl⟩
  | some k =>
    simp only at hx1
    split at hx1
    rotate_left
    · cases hx1
    rename_i U bs hk
    obtain ⟨_, hq, hx2⟩ := Option.bind_eq_some_iff.1 hx1
    obtain ⟨rfl, hn, hb0⟩ := req_some hq
    cases hx2
    obtain ⟨hkl, rfl⟩ := hm
    obtain ⟨kb, C, fz, c1, c2, c3, c4, c5, c6⟩ := hR.obj k _ hk
    subst hn
    refine (bs_raw (ρ b).blk (ρ k).blk (ρ k).size p0 C fz bs w hh c1 hb0 c4 c2 c5 c6).mono ?_
    rintro e w' ⟨rfl, hs, hz, ho, hloop⟩
    have nl : ∀ r : Loop, w.heap[(ρ k).blk]? = some (Obj.loop r) → ∃ r' : Loop, w'.heap[(ρ k).blk]? = some (Obj.loop r') := fun r hr => by rw [c1] at hr; cases hr
    exact ⟨ρ, _, _, evo_set hR hk (by simp) hs (by omega) ho nl, hR.set (o' := .dead) hk (by simp) hs (by omega) ho nl trivial, .ret _ _ (.lit _), rfl, rfl⟩
theorem Bld.string {h : AHeap} {b : Nat} {l : List UInt8} (B : Bld h b l) : ∃ h', bldS h (.ptr b 0) = some (.lit (.string ⟨l.toArray⟩), h') ∧ (∀ c, c < h.length → (∀ T bs, h[c]? ≠ some (.buf T bs)) → h'[c]? = h[c]?) ∧ h'.length = h.length := by
  cases B with
  | fresh hb =>
    refine ⟨h, ?_, fun _ _ _ => rfl, rfl⟩
    unfold bldS
    simp only [hb]
    rfl
  | held k _ hb hk hl0 =>
    refine ⟨h.set k .dead, ?_, fun c hc hcd => List.getElem?_set_ne (fun e => by subst e; exact hcd _ _ hk), by simp⟩
    unfold bldS
    simp only [hb]
    rw [req_true trivial]
    simp only [Option.bind_some, hk]
    rw [req_true (⟨trivial, trivial, hl0⟩ : True ∧ True ∧ l ≠ [])]
    rfl
end Go.Proofs.Yteclkehnppeobaa.AL
/- A builder's calls, as callers use them. -/
namespace Go.Proofs.Yteclkehnppeobaa.AL
set_option linter.unusedVariables false
set_option linter.unusedSimpArgs false
set_option maxRecDepth 100000
open Go
open Go.Proofs.Try
noncomputable def w_strings_Builder_WriteString : XC := .l fun R args h K => match args with
  | [p, .lit (.string s)] => (bldW h p s).bind fun r => K r.1 r.2
  | _ => none
theorem w_strings_Builder_WriteString_ok : XC.Nat w_strings_Builder_WriteString ∧ XC.Ok Try.prog 83 w_strings_Builder_WriteString := by
  refine ⟨fun R args h K => ?_, tc83, fun args h v h' hx => ?_⟩
  · dsimp only; split <;> simp [Option.bind_assoc, mkP]
  · dsimp only at hx; split at hx
    · obtain ⟨r, hopt, hx⟩ := Option.bind_eq_some_iff.1 hx
      simp only [mkP, Option.some.injEq, Prod.mk.injEq] at hx
      obtain ⟨rfl, rfl⟩ := hx
      exact (by obtain ⟨v, g⟩ := r; exact bld_write hopt)
    · cases hx
noncomputable def w_strings_Builder_String : XC := .l fun R args h K => match args with
  | [p] => (bldS h p).bind fun r => K r.1 r.2
  | _ => none
theorem w_strings_Builder_String_ok : XC.Nat w_strings_Builder_String ∧ XC.Ok Try.prog 86 w_strings_Builder_String := by
  refine ⟨fun R args h K => ?_, tc86, fun args h v h' hx => ?_⟩
  · dsimp only; split <;> simp [Option.bind_assoc, mkP]
  · dsimp only at hx; split at hx
    · obtain ⟨r, hopt, hx⟩ := Option.bind_eq_some_iff.1 hx
      simp only [mkP, Option.some.injEq, Prod.mk.injEq] at hx
      obtain ⟨rfl, rfl⟩ := hx
      exact (by obtain ⟨v, g⟩ := r; exact bld_string hopt)
    · cases hx
end Go.Proofs.Yteclkehnppeobaa.AL
/- A manifest's bytes. -/
namespace Go.Proofs.Yteclkehnppeobaa.AL
set_option linter.unusedVariables false
set_option linter.unusedSimpArgs false
set_option maxRecDepth 100000
open Go
open Go.Proofs.Try
-- chainman/manifest.lay: function 84
noncomputable def Emanifest_lay : XE := { T := tabOf [(3, r3), (4, r4), (9, r9), (120, r120)], C := [(83, w_strings_Builder_WriteString), (101, w_octet_Put)], D := [], Ms := [], Ml := [], Mo := [], n := 17 }
theorem Emanifest_lay_ok : XE.Ok Emanifest_lay Try.prog := ⟨tabOf_ok (⟨r3_ok, ⟨r4_ok, ⟨r9_ok, ⟨r120_ok, trivial⟩⟩⟩⟩), (⟨w_strings_Builder_WriteString_ok, ⟨w_octet_Put_ok, trivial⟩⟩), ydOk_none, trivial⟩
noncomputable def c84 : Code := bodyOf f84
noncomputable def S_manifest_lay (b0 : AVal) (n1 : Int) (size2 : Int) (h : AHeap) : Option (AVal × AHeap) := xfun Emanifest_lay f84 [b0, (.lit (.int .i64 n1)), (.lit (.int .i64 size2))] h
theorem S_manifest_lay_eq (b0 : AVal) (n1 : Int) (size2 : Int) (h : AHeap) : S_manifest_lay b0 n1 size2 h =
 (bldW h b0 (((putI n1 size2).getD ⟨#[]⟩))).bind fun r1 =>
 some ((.tup []), r1.2) := by kernel_rfl
theorem S_manifest_lay_ends {b0 : AVal} {n1 : Int} {size2 : Int} {h h' : AHeap} {v : AVal} {R : AEnd → AHeap → Prop} (hx : S_manifest_lay b0 n1 size2 h = some (v, h')) (hR : HOk h → h.length ≤ h'.length → ABody.AEnds h h' (.ret v) R) : ACalls Try.prog 84 [b0, (.lit (.int .i64 n1)), (.lit (.int .i64 size2))] h R := xfun_ends Emanifest_lay_ok tmix (i := 84) (by rfl) (by kernel_rfl) (by kernel_rfl) hx hR
noncomputable def w_manifest_lay : XC := .l fun R args h K => match args with
  | [a0, .lit (.int .i64 a1), .lit (.int .i64 a2)] => (S_manifest_lay a0 a1 a2 h).bind fun r => K r.1 r.2
  | _ => none
theorem w_manifest_lay_ok : XC.Nat w_manifest_lay ∧ XC.Ok Try.prog 84 w_manifest_lay := by
  refine ⟨fun R args h K => ?_, tc84, fun args h v h' hx => ?_⟩
  · dsimp only; split <;> simp [Option.bind_assoc, mkP]
  · dsimp only at hx; split at hx
    · obtain ⟨r, hopt, hx⟩ := Option.bind_eq_some_iff.1 hx
      simp only [mkP, Option.some.injEq, Prod.mk.injEq] at hx
      obtain ⟨rfl, rfl⟩ := hx
      exact (by obtain ⟨v, h'⟩ := r; exact S_manifest_lay_ends hopt selfR)
    · cases hx
-- chainman/manifest.Put: function 35
noncomputable def Emanifest_Put : XE := { T := tabOf [(3, r3), (4, r4), (5, r5), (9, r9), (29, r29), (31, r31), (50, r50), (85, r85), (120, r120), (121, r121), (123, r123)], C := [(82, w_manifest_Right), (83, w_strings_Builder_WriteString), (84, w_manifest_lay), (85, w_crc_Close), (86, w_strings_Builder_String)], D := [], Ms := [(17, [4])], Ml := [(9, [4, 28, 29, 30])], Mo := [], n := 60 }
theorem Emanifest_Put_ok : XE.Ok Emanifest_Put Try.prog := ⟨tabOf_ok (⟨r3_ok, ⟨r4_ok, ⟨r5_ok, ⟨r9_ok, ⟨r29_ok, ⟨r31_ok, ⟨r50_ok, ⟨r85_ok, ⟨r120_ok, ⟨r121_ok, ⟨r123_ok, trivial⟩⟩⟩⟩⟩⟩⟩⟩⟩⟩⟩), (⟨w_manifest_Right_ok, ⟨w_strings_Builder_WriteString_ok, ⟨w_manifest_lay_ok, ⟨w_crc_Close_ok, ⟨w_strings_Builder_String_ok, trivial⟩⟩⟩⟩⟩), ydOk_none, trivial⟩
noncomputable def c35 : Code := bodyOf f35
noncomputable def S_manifest_Put (m0 : List AVal) (h : AHeap) : Option (AVal × AHeap) := xfun Emanifest_Put f35 [(.agg m0)] h
noncomputable def S_manifest_Put_0 (b4 : Nat) (t28 : AVal) (t29 : Int) (t30 : Int) (h : AHeap) : Option (AVal × AHeap) := xexec Emanifest_Put (.loop (ca (ca (cb (ca (cb (cb (cb (cb (cb (cb (cb c35)))))))))))) (AVal × AHeap) [(4, (.ptr b4 0)), (28, t28), (29, (.lit (.int .i64 t29))), (30, (.lit (.int .i64 t30)))] h (kBlk 0 (kSeq Emanifest_Put (cb (cb (cb (cb (cb (cb (cb (cb c35)))))))) (xend Emanifest_Put f35)))
noncomputable def S_manifest_Put_1 (b4 : Nat) (h : AHeap) : Option (AVal × AHeap) := jn (xexec Emanifest_Put (cb (cb (cb (cb (cb (cb (cb (cb c35)))))))) (AVal × AHeap) [(4, (.ptr b4 0))] h (xend Emanifest_Put f35))
theorem S_manifest_Put_eq (m0 : List AVal) (h : AHeap) : S_manifest_Put m0 h =
 (ldn 3 ((psh h (.cells m0))) (.ptr h.length 0)).bind fun xs1 =>
 (S_manifest_Right xs1 ((psh h (.cells m0)))).bind fun r2 =>
 (asB r2.1).bind fun b3 =>
 bif (!b3) then (some ((.tup [(.lit (.string (⟨#[]⟩ : ByteArray))), (.lit (.bool false))]), r2.2))
 else ((bldW ((psh r2.2 (.bld 123 none 0))) (.ptr r2.2.length 0) (⟨#[77, 65, 78, 49]⟩ : ByteArray)).bind fun r4 =>
 (ld1 r4.2 (.ptr h.length 0)).bind fun x5 =>
 (asI .i64 x5).bind fun n6 =>
 (S_manifest_lay (.ptr r2.2.length 0) n6 2 r4.2).bind fun r7 =>
 (ld1 r7.2 (.ptr h.length 1)).bind fun x8 =>
 (asI .i64 x8).bind fun n9 =>
 (S_manifest_lay (.ptr r2.2.length 0) n9 2 r7.2).bind fun r10 =>
 (ld1 r10.2 (.ptr h.length 2)).bind fun x11 =>
 (lenV x11).bind fun n12 =>
 (S_manifest_lay (.ptr r2.2.length 0) n12 1 r10.2).bind fun r13 =>
 (ld1 r13.2 (.ptr h.length 2)).bind fun x14 =>
 (lenV x14).bind fun n15 =>
 S_manifest_Put_0 r2.2.length x14 n15 0 r13.2) := by kernel_rfl
theorem S_manifest_Put_0_eq (b4 : Nat) (t28 : AVal) (t29 : Int) (t30 : Int) (h : AHeap) : S_manifest_Put_0 b4 t28 t29 t30 h =
 bif (decide (t30 < t29)) then ((idxP 4 t28 t30).bind fun p16 =>
 (ldn 4 h p16).bind fun xs17 =>
 (stn 4 ((psh h (.cells [(.lit (.string ({ data := #[] }))), (.lit (.int .i64 0)), (.lit (.int .i64 0)), (.lit (.int .u32 0))]))) (.ptr h.length 0) xs17).bind fun h18 =>
 (ld1 h18 (.ptr h.length 0)).bind fun x19 =>
 (asS x19).bind fun s20 =>
 (S_manifest_lay (.ptr b4 0) (s20.size : Int) 1 h18).bind fun r21 =>
 (ld1 r21.2 (.ptr h.length 0)).bind fun x22 =>
 (asS x22).bind fun s23 =>
 (bldW r21.2 (.ptr b4 0) s23).bind fun r24 =>
 (ld1 r24.2 (.ptr h.length 1)).bind fun x25 =>
 (asI .i64 x25).bind fun n26 =>
 (S_manifest_lay (.ptr b4 0) n26 1 r24.2).bind fun r27 =>
 (ld1 r27.2 (.ptr h.length 2)).bind fun x28 =>
 (asI .i64 x28).bind fun n29 =>
 (S_manifest_lay (.ptr b4 0) n29 8 r27.2).bind fun r30 =>
 (ld1 r30.2 (.ptr h.length 3)).bind fun x31 =>
 (asI .u32 x31).bind fun n32 =>
 (S_manifest_lay (.ptr b4 0) (IntKind.wrap .i64 n32) 4 r30.2).bind fun r33 =>
 S_manifest_Put_0 b4 t28 t29 (IntKind.wrap .i64 (t30 + 1)) r33.2)
 else (S_manifest_Put_1 b4 h) := (xexec_loop Emanifest_Put Emanifest_Put_ok.C.nat _ _ _ _ _).trans (by kernel_rfl)
theorem S_manifest_Put_1_eq (b4 : Nat) (h : AHeap) : S_manifest_Put_1 b4 h =
 (bldS h (.ptr b4 0)).bind fun r34 =>
 (asS r34.1).bind fun s35 =>
 (closeO s35).bind fun r36 =>
 some ((.tup [(.lit (.string r36)), (.lit (.bool true))]), r34.2) := (jn_eq _).trans (by kernel_rfl)
theorem S_manifest_Put_ends {m0 : List AVal} {h h' : AHeap} {v : AVal} {R : AEnd → AHeap → Prop} (hx : S_manifest_Put m0 h = some (v, h')) (hR : HOk h → h.length ≤ h'.length → ABody.AEnds h h' (.ret v) R) : ACalls Try.prog 35 [(.agg m0)] h R := xfun_ends Emanifest_Put_ok tmix (i := 35) (by rfl) (by kernel_rfl) (by kernel_rfl) hx hR
noncomputable def w_manifest_Put : XC := .l fun R args h K => match args with
  | [.agg a0] => (S_manifest_Put a0 h).bind fun r => K r.1 r.2
  | _ => none
theorem w_manifest_Put_ok : XC.Nat w_manifest_Put ∧ XC.Ok Try.prog 35 w_manifest_Put := by
  refine ⟨fun R args h K => ?_, tc35, fun args h v h' hx => ?_⟩
  · dsimp only; split <;> simp [Option.bind_assoc, mkP]
  · dsimp only at hx; split at hx
    · obtain ⟨r, hopt, hx⟩ := Option.bind_eq_some_iff.1 hx
      simp only [mkP, Option.some.injEq, Prod.mk.injEq] at hx
      obtain ⟨rfl, rfl⟩ := hx
      exact (by obtain ⟨v, h'⟩ := r; exact S_manifest_Put_ends hopt selfR)
    · cases hx
-- internal/stringslite.HasPrefix: function 127
noncomputable def Einternal_stringslite_HasPrefix : XE := { T := tabOf [(3, r3), (4, r4), (9, r9)], C := [], D := [], Ms := [], Ml := [], Mo := [(1013, [17])], n := 18 }
theorem Einternal_stringslite_HasPrefix_ok : XE.Ok Einternal_stringslite_HasPrefix Try.prog := ⟨tabOf_ok (⟨r3_ok, ⟨r4_ok, ⟨r9_ok, trivial⟩⟩⟩), trivial, ydOk_none, trivial⟩
noncomputable def c127 : Code := bodyOf f127
noncomputable def S_internal_stringslite_HasPrefix (s0 : ByteArray) (prefix1 : ByteArray) (h : AHeap) : Option (AVal × AHeap) := xfun Einternal_stringslite_HasPrefix f127 [(.lit (.string s0)), (.lit (.string prefix1))] h
noncomputable def S_internal_stringslite_HasPrefix_0 (t17 : Bool) (h : AHeap) : Option (AVal × AHeap) := jo Einternal_stringslite_HasPrefix 1 (rops (ca (cb c127))) ((rops (ca (cb c127))).toList.drop 13) 13 [(17, (.lit (.bool t17)))] h (kN (kSeq Einternal_stringslite_HasPrefix (cb (cb c127)) (xend Einternal_stringslite_HasPrefix f127)))
theorem S_internal_stringslite_HasPrefix_eq (s0 : ByteArray) (prefix1 : ByteArray) (h : AHeap) : S_internal_stringslite_HasPrefix s0 prefix1 h =
 bif (decide ((s0.size : Int) ≥ (prefix1.size : Int))) then ((cutS s0 0 (prefix1.size : Int)).bind fun s1 =>
 S_internal_stringslite_HasPrefix_0 (decide (s1 = prefix1)) h)
 else (S_internal_stringslite_HasPrefix_0 false h) := by kernel_rfl
theorem S_internal_stringslite_HasPrefix_0_eq (t17 : Bool) (h : AHeap) : S_internal_stringslite_HasPrefix_0 t17 h =
 some ((.lit (.bool t17)), h) := (jo_eq ..).trans (by kernel_rfl)
theorem S_internal_stringslite_HasPrefix_ends {s0 : ByteArray} {prefix1 : ByteArray} {h h' : AHeap} {v : AVal} {R : AEnd → AHeap → Prop} (hx : S_internal_stringslite_HasPrefix s0 prefix1 h = some (v, h')) (hR : HOk h → h.length ≤ h'.length → ABody.AEnds h h' (.ret v) R) : ACalls Try.prog 127 [(.lit (.string s0)), (.lit (.string prefix1))] h R := xfun_ends Einternal_stringslite_HasPrefix_ok tmix (i := 127) (by rfl) (by kernel_rfl) (by kernel_rfl) hx hR
noncomputable def w_internal_stringslite_HasPrefix : XC := .q fun R args h K => match args with
  | [.lit (.string a0), .lit (.string a1)] => (onlyR (S_internal_stringslite_HasPrefix a0 a1 h) h).bind fun r => K r
  | _ => none
theorem w_internal_stringslite_HasPrefix_ok : XC.Nat w_internal_stringslite_HasPrefix ∧ XC.Ok Try.prog 127 w_internal_stringslite_HasPrefix := by
  refine ⟨fun R args h K => ?_, tc127, fun args h v hx => ?_⟩
  · dsimp only; split <;> simp [Option.bind_assoc, mkP]
  · dsimp only at hx; split at hx
    · obtain ⟨r, hopt, hx⟩ := Option.bind_eq_some_iff.1 hx
      cases hx
      exact (by have hopt := onlyR_some hopt; exact S_internal_stringslite_HasPrefix_ends hopt selfR)
    · cases hx
-- strings.HasPrefix: function 93
noncomputable def Estrings_HasPrefix : XE := { T := tabOf [(4, r4), (9, r9)], C := [(127, w_internal_stringslite_HasPrefix)], D := [], Ms := [], Ml := [], Mo := [], n := 8 }
theorem Estrings_HasPrefix_ok : XE.Ok Estrings_HasPrefix Try.prog := ⟨tabOf_ok (⟨r4_ok, ⟨r9_ok, trivial⟩⟩), (⟨w_internal_stringslite_HasPrefix_ok, trivial⟩), ydOk_none, trivial⟩
noncomputable def c93 : Code := bodyOf f93
noncomputable def S_strings_HasPrefix (s0 : ByteArray) (prefix1 : ByteArray) (h : AHeap) : Option (AVal × AHeap) := xfun Estrings_HasPrefix f93 [(.lit (.string s0)), (.lit (.string prefix1))] h
theorem S_strings_HasPrefix_eq (s0 : ByteArray) (prefix1 : ByteArray) (h : AHeap) : S_strings_HasPrefix s0 prefix1 h =
 (onlyR (S_internal_stringslite_HasPrefix s0 prefix1 h) h).bind fun r1 =>
 (asB r1).bind fun b2 =>
 some ((.lit (.bool b2)), h) := by kernel_rfl
theorem S_strings_HasPrefix_ends {s0 : ByteArray} {prefix1 : ByteArray} {h h' : AHeap} {v : AVal} {R : AEnd → AHeap → Prop} (hx : S_strings_HasPrefix s0 prefix1 h = some (v, h')) (hR : HOk h → h.length ≤ h'.length → ABody.AEnds h h' (.ret v) R) : ACalls Try.prog 93 [(.lit (.string s0)), (.lit (.string prefix1))] h R := xfun_ends Estrings_HasPrefix_ok tmix (i := 93) (by rfl) (by kernel_rfl) (by kernel_rfl) hx hR
noncomputable def w_strings_HasPrefix : XC := .q fun R args h K => match args with
  | [.lit (.string a0), .lit (.string a1)] => (onlyR (S_strings_HasPrefix a0 a1 h) h).bind fun r => K r
  | _ => none
theorem w_strings_HasPrefix_ok : XC.Nat w_strings_HasPrefix ∧ XC.Ok Try.prog 93 w_strings_HasPrefix := by
  refine ⟨fun R args h K => ?_, tc93, fun args h v hx => ?_⟩
  · dsimp only; split <;> simp [Option.bind_assoc, mkP]
  · dsimp only at hx; split at hx
    · obtain ⟨r, hopt, hx⟩ := Option.bind_eq_some_iff.1 hx
      cases hx
      exact (by have hopt := onlyR_some hopt; exact S_strings_HasPrefix_ends hopt selfR)
    · cases hx
-- (*chainman/manifest.bytes).take: function 128
noncomputable def Emanifest_bytes_take : XE := { T := tabOf [(3, r3), (4, r4), (9, r9), (139, r139), (193, r193)], C := [], D := [], Ms := [], Ml := [], Mo := [], n := 30 }
theorem Emanifest_bytes_take_ok : XE.Ok Emanifest_bytes_take Try.prog := ⟨tabOf_ok (⟨r3_ok, ⟨r4_ok, ⟨r9_ok, ⟨r139_ok, ⟨r193_ok, trivial⟩⟩⟩⟩⟩), trivial, ydOk_none, trivial⟩
noncomputable def c128 : Code := bodyOf f128
noncomputable def S_manifest_bytes_take (b0 : AVal) (n1 : Int) (h : AHeap) : Option (AVal × AHeap) := xfun Emanifest_bytes_take f128 [b0, (.lit (.int .i64 n1))] h
theorem S_manifest_bytes_take_eq (b0 : AVal) (n1 : Int) (h : AHeap) : S_manifest_bytes_take b0 n1 h =
 (nilCk b0).bind fun p1 =>
 (fieldP 0 p1).bind fun p2 =>
 (ld1 h p2).bind fun x3 =>
 (asS x3).bind fun s4 =>
 bif (decide (n1 > (s4.size : Int))) then (some ((.tup [(.lit (.string (⟨#[]⟩ : ByteArray))), (.lit (.bool false))]), h))
 else ((nilCk b0).bind fun p5 =>
 (fieldP 0 p5).bind fun p6 =>
 (ld1 h p6).bind fun x7 =>
 (asS x7).bind fun s8 =>
 (cutS s8 0 n1).bind fun s9 =>
 (nilCk b0).bind fun p10 =>
 (fieldP 0 p10).bind fun p11 =>
 (ld1 h p11).bind fun x12 =>
 (asS x12).bind fun s13 =>
 (cutS s13 n1 s13.size).bind fun s14 =>
 (nilCk b0).bind fun p15 =>
 (fieldP 0 p15).bind fun p16 =>
 (st1 h p16 (.lit (.string s14))).bind fun h17 =>
 some ((.tup [(.lit (.string s9)), (.lit (.bool true))]), h17)) := by kernel_rfl
theorem S_manifest_bytes_take_ends {b0 : AVal} {n1 : Int} {h h' : AHeap} {v : AVal} {R : AEnd → AHeap → Prop} (hx : S_manifest_bytes_take b0 n1 h = some (v, h')) (hR : HOk h → h.length ≤ h'.length → ABody.AEnds h h' (.ret v) R) : ACalls Try.prog 128 [b0, (.lit (.int .i64 n1))] h R := xfun_ends Emanifest_bytes_take_ok tmix (i := 128) (by rfl) (by kernel_rfl) (by kernel_rfl) hx hR
noncomputable def w_manifest_bytes_take : XC := .l fun R args h K => match args with
  | [a0, .lit (.int .i64 a1)] => (S_manifest_bytes_take a0 a1 h).bind fun r => K r.1 r.2
  | _ => none
theorem w_manifest_bytes_take_ok : XC.Nat w_manifest_bytes_take ∧ XC.Ok Try.prog 128 w_manifest_bytes_take := by
  refine ⟨fun R args h K => ?_, tc128, fun args h v h' hx => ?_⟩
  · dsimp only; split <;> simp [Option.bind_assoc, mkP]
  · dsimp only at hx; split at hx
    · obtain ⟨r, hopt, hx⟩ := Option.bind_eq_some_iff.1 hx
      simp only [mkP, Option.some.injEq, Prod.mk.injEq] at hx
      obtain ⟨rfl, rfl⟩ := hx
      exact (by obtain ⟨v, h'⟩ := r; exact S_manifest_bytes_take_ends hopt selfR)
    · cases hx
-- (*chainman/manifest.cursor).number: function 94
noncomputable def Emanifest_cursor_number : XE := { T := tabOf [(3, r3), (4, r4), (9, r9), (137, r137), (139, r139), (141, r141)], C := [(128, w_manifest_bytes_take), (129, w_octet_Get)], D := [], Ms := [], Ml := [], Mo := [(3009, [7, 8, 23, 31]), (3013, [7, 23, 35])], n := 39 }
theorem Emanifest_cursor_number_ok : XE.Ok Emanifest_cursor_number Try.prog := ⟨tabOf_ok (⟨r3_ok, ⟨r4_ok, ⟨r9_ok, ⟨r137_ok, ⟨r139_ok, ⟨r141_ok, trivial⟩⟩⟩⟩⟩⟩), (⟨w_manifest_bytes_take_ok, ⟨w_octet_Get_ok, trivial⟩⟩), ydOk_none, trivial⟩
noncomputable def c94 : Code := bodyOf f94
noncomputable def S_manifest_cursor_number (c0 : AVal) (size1 : Int) (h : AHeap) : Option (AVal × AHeap) := xfun Emanifest_cursor_number f94 [c0, (.lit (.int .i64 size1))] h
noncomputable def S_manifest_cursor_number_0 (n7 : Int) (is8 : Bool) (t23 : AVal) (t31 : Bool) (h : AHeap) : Option (AVal × AHeap) := jo Emanifest_cursor_number 3 (rops (ca (cb (cb (cb c94))))) ((rops (ca (cb (cb (cb c94))))).toList.drop 9) 9 [(7, (.lit (.int .i64 n7))), (8, (.lit (.bool is8))), (23, t23), (31, (.lit (.bool t31)))] h (kN (kSeq Emanifest_cursor_number (cb (cb (cb (cb c94)))) (xend Emanifest_cursor_number f94)))
noncomputable def S_manifest_cursor_number_1 (n7 : Int) (t23 : AVal) (t35 : Bool) (h : AHeap) : Option (AVal × AHeap) := jo Emanifest_cursor_number 3 (rops (ca (cb (cb (cb c94))))) ((rops (ca (cb (cb (cb c94))))).toList.drop 13) 13 [(7, (.lit (.int .i64 n7))), (23, t23), (35, (.lit (.bool t35)))] h (kN (kSeq Emanifest_cursor_number (cb (cb (cb (cb c94)))) (xend Emanifest_cursor_number f94)))
theorem S_manifest_cursor_number_eq (c0 : AVal) (size1 : Int) (h : AHeap) : S_manifest_cursor_number c0 size1 h =
 (nilCk c0).bind fun p1 =>
 (fieldP 0 p1).bind fun p2 =>
 (S_manifest_bytes_take p2 size1 h).bind fun r3 =>
 (xExtract r3.1 0).bind fun x4 =>
 (asS x4).bind fun s6 =>
 (xExtract r3.1 1).bind fun x7 =>
 (asB x7).bind fun b8 =>
 (getO s6 0 size1).bind fun r9 =>
 (nilCk c0).bind fun p10 =>
 (fieldP 1 p10).bind fun p11 =>
 (ld1 r3.2 p11).bind fun x12 =>
 (asB x12).bind fun b13 =>
 bif b13 then (S_manifest_cursor_number_0 (((r9.getD 0 : Nat) : Int)) (r9.isSome) c0 true r3.2)
 else (S_manifest_cursor_number_0 (((r9.getD 0 : Nat) : Int)) (r9.isSome) c0 (!b8) r3.2) := by kernel_rfl
theorem S_manifest_cursor_number_0_eq (n7 : Int) (is8 : Bool) (t23 : AVal) (t31 : Bool) (h : AHeap) : S_manifest_cursor_number_0 n7 is8 t23 t31 h =
 bif t31 then (S_manifest_cursor_number_1 n7 t23 true h)
 else (S_manifest_cursor_number_1 n7 t23 (!is8) h) := (jo_eq ..).trans (by kernel_rfl)
theorem S_manifest_cursor_number_1_eq (n7 : Int) (t23 : AVal) (t35 : Bool) (h : AHeap) : S_manifest_cursor_number_1 n7 t23 t35 h =
 (nilCk t23).bind fun p14 =>
 (fieldP 1 p14).bind fun p15 =>
 (st1 h p15 (.lit (.bool t35))).bind fun h16 =>
 some ((.lit (.int .i64 n7)), h16) := (jo_eq ..).trans (by kernel_rfl)
theorem S_manifest_cursor_number_ends {c0 : AVal} {size1 : Int} {h h' : AHeap} {v : AVal} {R : AEnd → AHeap → Prop} (hx : S_manifest_cursor_number c0 size1 h = some (v, h')) (hR : HOk h → h.length ≤ h'.length → ABody.AEnds h h' (.ret v) R) : ACalls Try.prog 94 [c0, (.lit (.int .i64 size1))] h R := xfun_ends Emanifest_cursor_number_ok tmix (i := 94) (by rfl) (by kernel_rfl) (by kernel_rfl) hx hR
noncomputable def w_manifest_cursor_number : XC := .l fun R args h K => match args with
  | [a0, .lit (.int .i64 a1)] => (S_manifest_cursor_number a0 a1 h).bind fun r => K r.1 r.2
  | _ => none
theorem w_manifest_cursor_number_ok : XC.Nat w_manifest_cursor_number ∧ XC.Ok Try.prog 94 w_manifest_cursor_number := by
  refine ⟨fun R args h K => ?_, tc94, fun args h v h' hx => ?_⟩
  · dsimp only; split <;> simp [Option.bind_assoc, mkP]
  · dsimp only at hx; split at hx
    · obtain ⟨r, hopt, hx⟩ := Option.bind_eq_some_iff.1 hx
      simp only [mkP, Option.some.injEq, Prod.mk.injEq] at hx
      obtain ⟨rfl, rfl⟩ := hx
      exact (by obtain ⟨v, h'⟩ := r; exact S_manifest_cursor_number_ends hopt selfR)
    · cases hx
-- (*chainman/manifest.cursor).text: function 130
noncomputable def Emanifest_cursor_text : XE := { T := tabOf [(3, r3), (4, r4), (9, r9), (137, r137), (139, r139), (141, r141)], C := [(128, w_manifest_bytes_take)], D := [], Ms := [], Ml := [], Mo := [(2009, [5, 15, 23])], n := 27 }
theorem Emanifest_cursor_text_ok : XE.Ok Emanifest_cursor_text Try.prog := ⟨tabOf_ok (⟨r3_ok, ⟨r4_ok, ⟨r9_ok, ⟨r137_ok, ⟨r139_ok, ⟨r141_ok, trivial⟩⟩⟩⟩⟩⟩), (⟨w_manifest_bytes_take_ok, trivial⟩), ydOk_none, trivial⟩
noncomputable def c130 : Code := bodyOf f130
noncomputable def S_manifest_cursor_text (c0 : AVal) (n1 : Int) (h : AHeap) : Option (AVal × AHeap) := xfun Emanifest_cursor_text f130 [c0, (.lit (.int .i64 n1))] h
noncomputable def S_manifest_cursor_text_0 (s5 : ByteArray) (t15 : AVal) (t23 : Bool) (h : AHeap) : Option (AVal × AHeap) := jo Emanifest_cursor_text 2 (rops (ca (cb (cb c130)))) ((rops (ca (cb (cb c130)))).toList.drop 9) 9 [(5, (.lit (.string s5))), (15, t15), (23, (.lit (.bool t23)))] h (kN (kSeq Emanifest_cursor_text (cb (cb (cb c130))) (xend Emanifest_cursor_text f130)))
theorem S_manifest_cursor_text_eq (c0 : AVal) (n1 : Int) (h : AHeap) : S_manifest_cursor_text c0 n1 h =
 (nilCk c0).bind fun p1 =>
 (fieldP 0 p1).bind fun p2 =>
 (S_manifest_bytes_take p2 n1 h).bind fun r3 =>
 (xExtract r3.1 0).bind fun x4 =>
 (asS x4).bind fun s6 =>
 (xExtract r3.1 1).bind fun x7 =>
 (asB x7).bind fun b8 =>
 (nilCk c0).bind fun p9 =>
 (fieldP 1 p9).bind fun p10 =>
 (ld1 r3.2 p10).bind fun x11 =>
 (asB x11).bind fun b12 =>
 bif b12 then (S_manifest_cursor_text_0 s6 c0 true r3.2)
 else (S_manifest_cursor_text_0 s6 c0 (!b8) r3.2) := by kernel_rfl
theorem S_manifest_cursor_text_0_eq (s5 : ByteArray) (t15 : AVal) (t23 : Bool) (h : AHeap) : S_manifest_cursor_text_0 s5 t15 t23 h =
 (nilCk t15).bind fun p13 =>
 (fieldP 1 p13).bind fun p14 =>
 (st1 h p14 (.lit (.bool t23))).bind fun h15 =>
 some ((.lit (.string s5)), h15) := (jo_eq ..).trans (by kernel_rfl)
theorem S_manifest_cursor_text_ends {c0 : AVal} {n1 : Int} {h h' : AHeap} {v : AVal} {R : AEnd → AHeap → Prop} (hx : S_manifest_cursor_text c0 n1 h = some (v, h')) (hR : HOk h → h.length ≤ h'.length → ABody.AEnds h h' (.ret v) R) : ACalls Try.prog 130 [c0, (.lit (.int .i64 n1))] h R := xfun_ends Emanifest_cursor_text_ok tmix (i := 130) (by rfl) (by kernel_rfl) (by kernel_rfl) hx hR
noncomputable def w_manifest_cursor_text : XC := .l fun R args h K => match args with
  | [a0, .lit (.int .i64 a1)] => (S_manifest_cursor_text a0 a1 h).bind fun r => K r.1 r.2
  | _ => none
theorem w_manifest_cursor_text_ok : XC.Nat w_manifest_cursor_text ∧ XC.Ok Try.prog 130 w_manifest_cursor_text := by
  refine ⟨fun R args h K => ?_, tc130, fun args h v h' hx => ?_⟩
  · dsimp only; split <;> simp [Option.bind_assoc, mkP]
  · dsimp only at hx; split at hx
    · obtain ⟨r, hopt, hx⟩ := Option.bind_eq_some_iff.1 hx
      simp only [mkP, Option.some.injEq, Prod.mk.injEq] at hx
      obtain ⟨rfl, rfl⟩ := hx
      exact (by obtain ⟨v, h'⟩ := r; exact S_manifest_cursor_text_ends hopt selfR)
    · cases hx
-- (*chainman/manifest.cursor).file: function 95
noncomputable def Emanifest_cursor_file : XE := { T := tabOf [(3, r3), (9, r9), (50, r50), (85, r85), (137, r137)], C := [(94, w_manifest_cursor_number), (130, w_manifest_cursor_text)], D := [], Ms := [], Ml := [], Mo := [], n := 21 }
theorem Emanifest_cursor_file_ok : XE.Ok Emanifest_cursor_file Try.prog := ⟨tabOf_ok (⟨r3_ok, ⟨r9_ok, ⟨r50_ok, ⟨r85_ok, ⟨r137_ok, trivial⟩⟩⟩⟩⟩), (⟨w_manifest_cursor_number_ok, ⟨w_manifest_cursor_text_ok, trivial⟩⟩), ydOk_none, trivial⟩
noncomputable def c95 : Code := bodyOf f95
noncomputable def S_manifest_cursor_file (c0 : AVal) (h : AHeap) : Option (AVal × AHeap) := xfun Emanifest_cursor_file f95 [c0] h
theorem S_manifest_cursor_file_eq (c0 : AVal) (h : AHeap) : S_manifest_cursor_file c0 h =
 (S_manifest_cursor_number c0 1 ((psh h (.cells [(.lit (.string ({ data := #[] }))), (.lit (.int .i64 0)), (.lit (.int .i64 0)), (.lit (.int .u32 0))])))).bind fun r1 =>
 (asI .i64 r1.1).bind fun n2 =>
 (S_manifest_cursor_text c0 n2 r1.2).bind fun r3 =>
 (asS r3.1).bind fun s4 =>
 (S_manifest_cursor_number c0 1 r3.2).bind fun r5 =>
 (asI .i64 r5.1).bind fun n6 =>
 (S_manifest_cursor_number c0 8 r5.2).bind fun r7 =>
 (asI .i64 r7.1).bind fun n8 =>
 (S_manifest_cursor_number c0 4 r7.2).bind fun r9 =>
 (asI .i64 r9.1).bind fun n10 =>
 (stn 4 r9.2 (.ptr h.length 0) ([(.lit (.string s4)), (.lit (.int .i64 n6)), (.lit (.int .i64 n8)), (.lit (.int .u32 (IntKind.wrap .u32 n10)))])).bind fun h11 =>
 (ldn 4 h11 (.ptr h.length 0)).bind fun xs12 =>
 some ((.agg xs12), h11) := by kernel_rfl
theorem S_manifest_cursor_file_ends {c0 : AVal} {h h' : AHeap} {v : AVal} {R : AEnd → AHeap → Prop} (hx : S_manifest_cursor_file c0 h = some (v, h')) (hR : HOk h → h.length ≤ h'.length → ABody.AEnds h h' (.ret v) R) : ACalls Try.prog 95 [c0] h R := xfun_ends Emanifest_cursor_file_ok tmix (i := 95) (by rfl) (by kernel_rfl) (by kernel_rfl) hx hR
noncomputable def w_manifest_cursor_file : XC := .l fun R args h K => match args with
  | [a0] => (S_manifest_cursor_file a0 h).bind fun r => K r.1 r.2
  | _ => none
theorem w_manifest_cursor_file_ok : XC.Nat w_manifest_cursor_file ∧ XC.Ok Try.prog 95 w_manifest_cursor_file := by
  refine ⟨fun R args h K => ?_, tc95, fun args h v h' hx => ?_⟩
  · dsimp only; split <;> simp [Option.bind_assoc, mkP]
  · dsimp only at hx; split at hx
    · obtain ⟨r, hopt, hx⟩ := Option.bind_eq_some_iff.1 hx
      simp only [mkP, Option.some.injEq, Prod.mk.injEq] at hx
      obtain ⟨rfl, rfl⟩ := hx
      exact (by obtain ⟨v, h'⟩ := r; exact S_manifest_cursor_file_ends hopt selfR)
    · cases hx
-- chainman/manifest.Get: function 47
noncomputable def Emanifest_Get : XE := { T := tabOf [(3, r3), (4, r4), (9, r9), (29, r29), (31, r31), (50, r50), (85, r85), (137, r137), (139, r139), (141, r141)], C := [(82, w_manifest_Right), (92, w_crc_Open), (93, w_strings_HasPrefix), (94, w_manifest_cursor_number), (95, w_manifest_cursor_file)], D := [(9, ⟨[], [], [], [], [], [0, 1, 2], [(3, [0, 1]), (4, [0, 1]), (5, []), (6, []), (7, [])]⟩)], Ms := [(10, [2, 6, 7])], Ml := [(7, [2, 6, 7, 8])], Mo := [(2007, [2, 4, 20]), (7009, [2, 6, 7, 8, 42]), (10012, [2, 7, 63]), (10017, [2, 7, 68])], n := 71 }
theorem Emanifest_Get_ok : XE.Ok Emanifest_Get Try.prog := ⟨tabOf_ok (⟨r3_ok, ⟨r4_ok, ⟨r9_ok, ⟨r29_ok, ⟨r31_ok, ⟨r50_ok, ⟨r85_ok, ⟨r137_ok, ⟨r139_ok, ⟨r141_ok, trivial⟩⟩⟩⟩⟩⟩⟩⟩⟩⟩), (⟨w_manifest_Right_ok, ⟨w_crc_Open_ok, ⟨w_strings_HasPrefix_ok, ⟨w_manifest_cursor_number_ok, ⟨w_manifest_cursor_file_ok, trivial⟩⟩⟩⟩⟩), ydOk_none, trivial⟩
noncomputable def c47 : Code := bodyOf f47
noncomputable def S_manifest_Get (s0 : ByteArray) (h : AHeap) : Option (AVal × AHeap) := xfun Emanifest_Get f47 [(.lit (.string s0))] h
noncomputable def S_manifest_Get_0 (t2 : Nat) (t4 : ByteArray) (t20 : Bool) (h : AHeap) : Option (AVal × AHeap) := jo Emanifest_Get 2 (rops (ca (ca (cb (cb c47))))) ((rops (ca (ca (cb (cb c47))))).toList.drop 7) 7 [(2, (.ptr t2 0)), (4, (.lit (.string t4))), (20, (.lit (.bool t20)))] h (kN (kSeq Emanifest_Get (cb (ca (cb (cb c47)))) (kSeq Emanifest_Get (cb (cb (cb c47))) (xend Emanifest_Get f47))))
noncomputable def S_manifest_Get_1 (t2 : Nat) (c6 : Nat) (m7 : Nat) (n8 : Int) (h : AHeap) : Option (AVal × AHeap) := xexec Emanifest_Get (.loop (ca (ca (cb (ca (cb (cb (cb (cb (cb c47)))))))))) (AVal × AHeap) [(2, (.ptr t2 0)), (6, (.ptr c6 0)), (7, (.ptr m7 0)), (8, (.lit (.int .i64 n8)))] h (kBlk 0 (kSeq Emanifest_Get (cb (cb (cb (cb (cb (cb c47)))))) (xend Emanifest_Get f47)))
noncomputable def S_manifest_Get_2 (t2 : Nat) (c6 : Nat) (m7 : Nat) (n8 : Int) (t42 : Bool) (h : AHeap) : Option (AVal × AHeap) := jo Emanifest_Get 7 (rops (ca (ca (ca (ca (cb (ca (cb (cb (cb (cb (cb c47)))))))))))) ((rops (ca (ca (ca (ca (cb (ca (cb (cb (cb (cb (cb c47)))))))))))).toList.drop 9) 9 [(2, (.ptr t2 0)), (6, (.ptr c6 0)), (7, (.ptr m7 0)), (8, (.lit (.int .i64 n8))), (42, (.lit (.bool t42)))] h (kN (kSeq Emanifest_Get (cb (ca (ca (ca (cb (ca (cb (cb (cb (cb (cb c47))))))))))) (kSeq Emanifest_Get (cb (ca (ca (cb (ca (cb (cb (cb (cb (cb c47)))))))))) (kLoop Emanifest_Get (ca (ca (cb (ca (cb (cb (cb (cb (cb c47))))))))) (kBlk 0 (kSeq Emanifest_Get (cb (cb (cb (cb (cb (cb c47)))))) (xend Emanifest_Get f47)))))))
noncomputable def S_manifest_Get_3 (t2 : Nat) (c6 : Nat) (m7 : Nat) (h : AHeap) : Option (AVal × AHeap) := jn (xexec Emanifest_Get (cb (cb (cb (cb (cb (cb c47)))))) (AVal × AHeap) [(2, (.ptr t2 0)), (6, (.ptr c6 0)), (7, (.ptr m7 0))] h (xend Emanifest_Get f47))
noncomputable def S_manifest_Get_4 (t2 : Nat) (m7 : Nat) (t63 : Bool) (h : AHeap) : Option (AVal × AHeap) := jo Emanifest_Get 10 (rops (ca (ca (cb (cb (cb (cb (cb (cb c47))))))))) ((rops (ca (ca (cb (cb (cb (cb (cb (cb c47))))))))).toList.drop 12) 12 [(2, (.ptr t2 0)), (7, (.ptr m7 0)), (63, (.lit (.bool t63)))] h (kN (kSeq Emanifest_Get (cb (ca (cb (cb (cb (cb (cb (cb c47)))))))) (kSeq Emanifest_Get (cb (cb (cb (cb (cb (cb (cb c47))))))) (xend Emanifest_Get f47))))
noncomputable def S_manifest_Get_5 (t2 : Nat) (m7 : Nat) (t68 : Bool) (h : AHeap) : Option (AVal × AHeap) := jo Emanifest_Get 10 (rops (ca (ca (cb (cb (cb (cb (cb (cb c47))))))))) ((rops (ca (ca (cb (cb (cb (cb (cb (cb c47))))))))).toList.drop 17) 17 [(2, (.ptr t2 0)), (7, (.ptr m7 0)), (68, (.lit (.bool t68)))] h (kN (kSeq Emanifest_Get (cb (ca (cb (cb (cb (cb (cb (cb c47)))))))) (kSeq Emanifest_Get (cb (cb (cb (cb (cb (cb (cb c47))))))) (xend Emanifest_Get f47))))
theorem S_manifest_Get_eq (s0 : ByteArray) (h : AHeap) : S_manifest_Get s0 h =
 (openO s0).bind fun r1 =>
 bif (!(r1.isSome)) then (S_manifest_Get_0 h.length (r1.getD ⟨#[]⟩) true ((psh h (.cells [(.lit (.int .i64 0)), (.lit (.int .i64 0)), (.lit (.slice none 0 0))]))))
 else ((onlyR (S_strings_HasPrefix (r1.getD ⟨#[]⟩) (⟨#[77, 65, 78, 49]⟩ : ByteArray) ((psh h (.cells [(.lit (.int .i64 0)), (.lit (.int .i64 0)), (.lit (.slice none 0 0))])))) ((psh h (.cells [(.lit (.int .i64 0)), (.lit (.int .i64 0)), (.lit (.slice none 0 0))])))).bind fun r2 =>
 (asB r2).bind fun b3 =>
 S_manifest_Get_0 h.length (r1.getD ⟨#[]⟩) (!b3) ((psh h (.cells [(.lit (.int .i64 0)), (.lit (.int .i64 0)), (.lit (.slice none 0 0))])))) := by kernel_rfl
theorem S_manifest_Get_0_eq (t2 : Nat) (t4 : ByteArray) (t20 : Bool) (h : AHeap) : S_manifest_Get_0 t2 t4 t20 h =
 bif t20 then ((stn 3 h (.ptr t2 0) ([(.lit (.int .i64 0)), (.lit (.int .i64 0)), (.lit (.slice none 0 0))])).bind fun h4 =>
 (ldn 3 h4 (.ptr t2 0)).bind fun xs5 =>
 some ((.tup [(.agg xs5), (.lit (.bool false))]), h4))
 else ((cutS t4 4 t4.size).bind fun s6 =>
 (S_manifest_cursor_number (.ptr h.length 0) 2 ((psh h (.cells ([(.lit (.string s6)), (.lit (.bool false))]))))).bind fun r7 =>
 (asI .i64 r7.1).bind fun n9 =>
 (S_manifest_cursor_number (.ptr h.length 0) 2 r7.2).bind fun r10 =>
 (asI .i64 r10.1).bind fun n11 =>
 (stn 3 ((psh r10.2 (.cells [(.lit (.int .i64 0)), (.lit (.int .i64 0)), (.lit (.slice none 0 0))]))) (.ptr r10.2.length 0) ([(.lit (.int .i64 n9)), (.lit (.int .i64 n11)), (.lit (.slice none 0 0))])).bind fun h12 =>
 (S_manifest_cursor_number (.ptr h.length 0) 1 h12).bind fun r13 =>
 (asI .i64 r13.1).bind fun n14 =>
 S_manifest_Get_1 t2 h.length r10.2.length n14 r13.2) := (jo_eq ..).trans (by kernel_rfl)
theorem S_manifest_Get_1_eq (t2 : Nat) (c6 : Nat) (m7 : Nat) (n8 : Int) (h : AHeap) : S_manifest_Get_1 t2 c6 m7 n8 h =
 bif (decide (n8 > 0)) then ((ld1 h (.ptr c6 1)).bind fun x15 =>
 (asB x15).bind fun b16 =>
 S_manifest_Get_2 t2 c6 m7 n8 (!b16) h)
 else (S_manifest_Get_2 t2 c6 m7 n8 false h) := (xexec_loop Emanifest_Get Emanifest_Get_ok.C.nat _ _ _ _ _).trans (by kernel_rfl)
theorem S_manifest_Get_2_eq (t2 : Nat) (c6 : Nat) (m7 : Nat) (n8 : Int) (t42 : Bool) (h : AHeap) : S_manifest_Get_2 t2 c6 m7 n8 t42 h =
 bif t42 then ((ld1 h (.ptr m7 2)).bind fun x17 =>
 (S_manifest_cursor_file (.ptr c6 0) h).bind fun r18 =>
 (asA r18.1).bind fun xs19 =>
 (reqC ((((ld1 r18.2 (.ptr m7 2)).bind fun x20 =>
 some x20) : Option AVal) = some x17)).bind fun _ =>
 (blitS 4 [(.lit (.string ({ data := #[] }))), (.lit (.int .i64 0)), (.lit (.int .i64 0)), (.lit (.int .u32 0))] 1 [(0, (.agg xs19))] r18.2).bind fun r21 =>
 (reqC ((((ld1 r21.2 (.ptr m7 2)).bind fun x22 =>
 some x22) : Option AVal) = some x17)).bind fun _ =>
 (appV 4 40 r21.2 x17 r21.1).bind fun r23 =>
 (st1 r23.2 (.ptr m7 2) r23.1).bind fun h24 =>
 S_manifest_Get_1 t2 c6 m7 (IntKind.wrap .i64 (n8 - 1)) h24)
 else (S_manifest_Get_3 t2 c6 m7 h) := (jo_eq ..).trans (by kernel_rfl)
theorem S_manifest_Get_3_eq (t2 : Nat) (c6 : Nat) (m7 : Nat) (h : AHeap) : S_manifest_Get_3 t2 c6 m7 h =
 (ld1 h (.ptr c6 1)).bind fun x25 =>
 (asB x25).bind fun b26 =>
 bif b26 then (S_manifest_Get_4 t2 m7 true h)
 else ((ld1 h (.ptr c6 0)).bind fun x27 =>
 (asS x27).bind fun s28 =>
 S_manifest_Get_4 t2 m7 (!decide (s28 = (⟨#[]⟩ : ByteArray))) h) := (jn_eq _).trans (by kernel_rfl)
theorem S_manifest_Get_4_eq (t2 : Nat) (m7 : Nat) (t63 : Bool) (h : AHeap) : S_manifest_Get_4 t2 m7 t63 h =
 bif t63 then (S_manifest_Get_5 t2 m7 true h)
 else ((ldn 3 h (.ptr m7 0)).bind fun xs29 =>
 (S_manifest_Right xs29 h).bind fun r30 =>
 (asB r30.1).bind fun b31 =>
 S_manifest_Get_5 t2 m7 (!b31) r30.2) := (jo_eq ..).trans (by kernel_rfl)
theorem S_manifest_Get_5_eq (t2 : Nat) (m7 : Nat) (t68 : Bool) (h : AHeap) : S_manifest_Get_5 t2 m7 t68 h =
 bif t68 then ((stn 3 h (.ptr t2 0) ([(.lit (.int .i64 0)), (.lit (.int .i64 0)), (.lit (.slice none 0 0))])).bind fun h32 =>
 (ldn 3 h32 (.ptr t2 0)).bind fun xs33 =>
 some ((.tup [(.agg xs33), (.lit (.bool false))]), h32))
 else ((ldn 3 h (.ptr m7 0)).bind fun xs34 =>
 (stn 3 h (.ptr t2 0) xs34).bind fun h35 =>
 (ldn 3 h35 (.ptr t2 0)).bind fun xs36 =>
 some ((.tup [(.agg xs36), (.lit (.bool true))]), h35)) := (jo_eq ..).trans (by kernel_rfl)
theorem S_manifest_Get_ends {s0 : ByteArray} {h h' : AHeap} {v : AVal} {R : AEnd → AHeap → Prop} (hx : S_manifest_Get s0 h = some (v, h')) (hR : HOk h → h.length ≤ h'.length → ABody.AEnds h h' (.ret v) R) : ACalls Try.prog 47 [(.lit (.string s0))] h R := xfun_ends Emanifest_Get_ok tmix (i := 47) (by rfl) (by kernel_rfl) (by kernel_rfl) hx hR
noncomputable def w_manifest_Get : XC := .l fun R args h K => match args with
  | [.lit (.string a0)] => (S_manifest_Get a0 h).bind fun r => K r.1 r.2
  | _ => none
theorem w_manifest_Get_ok : XC.Nat w_manifest_Get ∧ XC.Ok Try.prog 47 w_manifest_Get := by
  refine ⟨fun R args h K => ?_, tc47, fun args h v h' hx => ?_⟩
  · dsimp only; split <;> simp [Option.bind_assoc, mkP]
  · dsimp only at hx; split at hx
    · obtain ⟨r, hopt, hx⟩ := Option.bind_eq_some_iff.1 hx
      simp only [mkP, Option.some.injEq, Prod.mk.injEq] at hx
      obtain ⟨rfl, rfl⟩ := hx
      exact (by obtain ⟨v, h'⟩ := r; exact S_manifest_Get_ends hopt selfR)
    · cases hx
end Go.Proofs.Yteclkehnppeobaa.AL
/- A builder of the call's own. -/
namespace Go.Proofs.Yteclkehnppeobaa.AL
set_option linter.unusedVariables false
set_option linter.unusedSimpArgs false
set_option maxRecDepth 100000
open Go
/-- Cells stay. -/
def Cel (h h' : AHeap) : Prop := h.length ≤ h'.length ∧ ∀ c cs, cellsAt h c = some cs → cellsAt h' c = some cs
theorem Cel.refl (h : AHeap) : Cel h h := ⟨Nat.le_refl _, fun _ _ h => h⟩
theorem Cel.trans {h h' h'' : AHeap} (a : Cel h h') (b : Cel h' h'') : Cel h h'' := ⟨Nat.le_trans a.1 b.1, fun c cs hc => b.2 c cs (a.2 c cs hc)⟩
theorem Cel.psh (h : AHeap) (o : AObj) : Cel h (psh h o) := ⟨by rw [psh_length]; omega, fun c cs hc => cellsAt_psh o hc⟩
theorem Cel.of {h h' : AHeap} (a : Grow h h') : Cel h h' := ⟨a.len, fun c cs hc => a.cells hc⟩
theorem Sl.cel {k n : Nat} {h h' : AHeap} {v : AVal} {cs : List AVal} (S : Sl k h v n cs) (a : Cel h h') : Sl k h' v n cs := by
  refine ⟨S.1, ?_⟩
  have h2 := S.2
  split at h2
  · obtain ⟨rfl, rfl, all, H, h3, h4⟩ := h2
    exact ⟨rfl, rfl, all, a.2 _ _ H, h3, h4⟩
  · exact h2
  · exact h2
  · exact h2.elim
inductive BldN (n : Nat) (h : AHeap) (b : Nat) : List UInt8 → Prop
  | fresh (hb : h[b]? = some (.bld 123 none 0)) (hn : n ≤ b) : BldN n h b []
  | held (k : Nat) (bs : List UInt8) (hb : h[b]? = some (.bld 123 (some k) bs.length)) (hk : h[k]? = some (.buf 5 bs)) (h0 : bs ≠ []) (hn : n ≤ b) (hnk : n ≤ k) : BldN n h b bs
theorem BldN.new {n : Nat} {h : AHeap} (hn : n ≤ h.length) : BldN n (psh h (.bld 123 none 0)) h.length [] := .fresh (by simp [psh]) hn
theorem BldN.psh {n : Nat} {h : AHeap} {b : Nat} {l : List UInt8} (B : BldN n h b l) (o : AObj) : BldN n (psh h o) b l := by
  have ex : ∀ {c : Nat} {x : AObj}, h[c]? = some x → (h ++ [o])[c]? = some x := fun hc => by rw [List.getElem?_append_left (lt_of_getL hc)]; exact hc
  cases B with
  | fresh hb hn => exact .fresh (ex hb) hn
  | held k _ hb hk h0 hn hnk => exact .held k l (ex hb) (ex hk) h0 hn hnk
theorem BldN.write {n : Nat} {h : AHeap} {b : Nat} {l : List UInt8} (B : BldN n h b l) {s : ByteArray} (h0 : s.size ≠ 0) (hs : l.length + s.size ≤ 140737488355328) :
    ∃ h', bldW h (.ptr b 0) s = some (wroteV s, h') ∧ BldN n h' b (l ++ s.data.toList) ∧ Cel h h' ∧ Keep n [] h h' := by
  have hsl : s.data.toList.length = s.size := Array.length_toList
  have hs0 : s.data.toList ≠ [] := fun e => by rw [e] at hsl; simp at hsl; exact h0 hsl.symm
  cases B with
  | fresh hb hn =>
    have hbl := lt_of_getL hb
    refine ⟨(h.set b (.bld 123 (some h.length) s.size)) ++ [.buf 5 s.data.toList], ?_, .held h.length _ ?_ ?_ (by simpa using hs0) hn (by omega), ⟨by simp, fun c cs hc => ?_⟩, ⟨by simp, fun c hc _ => ?_⟩⟩
    · unfold bldW
      simp only [hb]
      rw [req_true (⟨trivial, h0, by simpa using hs⟩ : True ∧ s.size ≠ 0 ∧ 0 + s.size ≤ 140737488355328), req_true trivial]
      rfl
    · rw [List.getElem?_append_left (by simpa using hbl), List.getElem?_set_self hbl]; simp [hsl]
    · rw [List.getElem?_append_right (by simp)]; simp
    · have hcb : b ≠ c := fun e => by subst e; have := cellsAt_some hc; rw [hb] at this; cases this
      exact cellsAt_more _ (cellsAt_set_ne _ hcb hc)
    · rw [List.getElem?_append_left (by simp; omega), List.getElem?_set_ne (by omega)]
  | held k _ hb hk hl0 hn hnk =>
    have hbl := lt_of_getL hb
    have hkb : k ≠ b := fun e => by rw [e, hb] at hk; cases hk
    refine ⟨((h.set k .dead).set b (.bld 123 (some h.length) (l.length + s.size))) ++ [.buf 5 (l ++ s.data.toList)], ?_, .held h.length _ ?_ ?_ (by simp [hl0]) hn (by omega), ⟨by simp, fun c cs hc => ?_⟩, ⟨by simp, fun c hc _ => ?_⟩⟩
    · unfold bldW
      simp only [hb]
      rw [req_true (⟨trivial, h0, hs⟩ : True ∧ s.size ≠ 0 ∧ l.length + s.size ≤ 140737488355328)]
      simp only [Option.bind_some, hk]
      rw [req_true (⟨trivial, trivial⟩ : True ∧ True)]
      rfl
    · rw [List.getElem?_append_left (by simpa using hbl), List.getElem?_set_self (by simpa using hbl)]; simp [hsl]
    · rw [List.getElem?_append_right (by simp)]; simp
    · have hcb : b ≠ c := fun e => by subst e; have := cellsAt_some hc; rw [hb] at this; cases this
      have hck : k ≠ c := fun e => by subst e; have := cellsAt_some hc; rw [hk] at this; cases this
      exact cellsAt_more _ (cellsAt_set_ne _ hcb (cellsAt_set_ne _ hck hc))
    · rw [List.getElem?_append_left (by simp; omega), List.getElem?_set_ne (by omega), List.getElem?_set_ne (by omega)]
theorem BldN.string {n : Nat} {h : AHeap} {b : Nat} {l : List UInt8} (B : BldN n h b l) : ∃ h', bldS h (.ptr b 0) = some (.lit (.string ⟨l.toArray⟩), h') ∧ Cel h h' ∧ Keep n [] h h' := by
  cases B with
  | fresh hb hn =>
    refine ⟨h, ?_, .refl h, Keep.refl _ _ _⟩
    unfold bldS
    simp only [hb]
    rfl
  | held k _ hb hk hl0 hn hnk =>
    refine ⟨h.set k .dead, ?_, ⟨by simp, fun c cs hc => ?_⟩, ⟨by simp, fun c hc _ => List.getElem?_set_ne (by omega)⟩⟩
    · unfold bldS
      simp only [hb]
      rw [req_true trivial]
      simp only [Option.bind_some, hk]
      rw [req_true (⟨trivial, trivial, hl0⟩ : True ∧ True ∧ l ≠ [])]
      rfl
    · have hck : k ≠ c := fun e => by subst e; have := cellsAt_some hc; rw [hk] at this; cases this
      exact cellsAt_set_ne _ hck hc
end Go.Proofs.Yteclkehnppeobaa.AL
/- Octets: the number of a number's bytes is the number. -/
namespace Go.Proofs.Yteclkehnppeobaa.AL
set_option linter.unusedVariables false
set_option linter.unusedSimpArgs false
set_option maxRecDepth 100000
open Go
def beL (n : Nat) : Nat → List UInt8
  | 0 => []
  | k + 1 => by8 n k :: beL n k
theorem beL_len (n : Nat) : ∀ k, (beL n k).length = k
  | 0 => rfl
  | k + 1 => by rw [beL, List.length_cons, beL_len n k]
theorem by8_nat (n i : Nat) : (by8 n i).toNat = n / 256 ^ i % 256 := by unfold by8; simp
theorem by8_zero {n i : Nat} (h : n < 256 ^ i) : by8 n i = 0 := by
  unfold by8; rw [Nat.div_eq_of_lt h]; rfl
theorem beV_beL (n : Nat) : ∀ (k m : Nat), beV (beL n k) m = m * 256 ^ k + n % 256 ^ k
  | 0, m => by simp [beL, beV, Nat.mod_one]
  | k + 1, m => by
    show beV (beL n k) (256 * m + (by8 n k).toNat) = _
    rw [beV_beL n k, by8_nat, Nat.pow_succ, Nat.mod_mul, Nat.add_mul]
    have e1 : 256 * m * 256 ^ k = m * (256 ^ k * 256) := by rw [Nat.mul_comm 256 m, Nat.mul_assoc, Nat.mul_comm 256]
    have e2 : n / 256 ^ k % 256 * 256 ^ k = 256 ^ k * (n / 256 ^ k % 256) := Nat.mul_comm _ _
    omega
theorem be8_drop {n k : Nat} (hk : k ≤ 8) : (be8 n).drop (8 - k) = beL n k := by
  match k, hk with
  | 0, _ => rfl
  | 1, _ => rfl
  | 2, _ => rfl
  | 3, _ => rfl
  | 4, _ => rfl
  | 5, _ => rfl
  | 6, _ => rfl
  | 7, _ => rfl
  | 8, _ => rfl
theorem be8_take {n k : Nat} (hk : k ≤ 8) (hn : n < 256 ^ k) : ∀ x ∈ (be8 n).take (8 - k), x = 0 := by
  have z : ∀ j, k ≤ j → by8 n j = 0 := fun j hj => by8_zero (Nat.lt_of_lt_of_le hn (Nat.pow_le_pow_right (by omega) hj))
  match k, hk with
  | 0, _ => simp [be8, z]
  | 1, _ => simp [be8, z]
  | 2, _ => simp [be8, z]
  | 3, _ => simp [be8, z]
  | 4, _ => simp [be8, z]
  | 5, _ => simp [be8, z]
  | 6, _ => simp [be8, z]
  | 7, _ => simp [be8, z]
  | 8, _ => simp [be8]
theorem putB_ok {n k : Nat} (hk : k ≤ 8) (hn : n < 256 ^ k) : putB n k = some ⟨(beL n k).toArray⟩ := by
  unfold putB
  rw [if_pos (be8_take hk hn), be8_drop hk]
theorem putI_ok {n : Int} {k : Nat} (h0 : 0 ≤ n) (h1 : 1 ≤ k) (hk : k ≤ 8) (hn : n < 256 ^ k) : putI n (k : Int) = some ⟨(beL n.toNat k).toArray⟩ := by
  obtain ⟨m, rfl⟩ := Int.eq_ofNat_of_zero_le h0
  rw [putI_nat m h1 hk, putB_ok hk (by exact_mod_cast hn)]; rfl
theorem getB_be {n k : Nat} (h1 : 1 ≤ k) (hk : k ≤ 8) (hn : n < 256 ^ k) (h63 : n < 9223372036854775808) : getB ⟨(beL n k).toArray⟩ 0 (k : Int) = some n := by
  have hs : (⟨(beL n k).toArray⟩ : ByteArray).size = k := by
    show (beL n k).toArray.size = k
    rw [List.size_toArray, beL_len]
  have hg : getN ⟨(beL n k).toArray⟩ 0 k = n := by
    unfold getN
    have : ((⟨(beL n k).toArray⟩ : ByteArray).extract 0 (0 + k)).data.toList = beL n k := by
      rw [ByteArray.data_extract, Array.toList_extract, List.extract_eq_take_drop]
      simp [beL_len, List.take_of_length_le]
    rw [this, beV_beL, Nat.zero_mul, Nat.zero_add, Nat.mod_eq_of_lt hn]
  unfold getB
  rw [if_pos (by rw [hs]; omega)]
  rw [show (0 : Int).toNat = 0 from rfl, Int.toNat_natCast, hg, if_pos h63]
theorem getO_be {n k : Nat} (h1 : 1 ≤ k) (hk : k ≤ 8) (hn : n < 256 ^ k) (h63 : n < 9223372036854775808) : getO ⟨(beL n k).toArray⟩ 0 (k : Int) = some (some n) := by
  have hs : (⟨(beL n k).toArray⟩ : ByteArray).size = k := by
    show (beL n k).toArray.size = k
    rw [List.size_toArray, beL_len]
  rw [getO_some (by rw [hs]; omega) (by omega), getB_be h1 hk hn h63]
end Go.Proofs.Yteclkehnppeobaa.AL
/- What is written of a manifest. -/
namespace Go.Proofs.Yteclkehnppeobaa.AL
set_option linter.unusedVariables false
set_option linter.unusedSimpArgs false
set_option maxRecDepth 100000
open Go
open Go.Proofs.Try
theorem lay_run {n : Nat} {h : AHeap} {b : Nat} {l : List UInt8} (B : BldN n h b l) {v : Int} {k : Nat} (h0 : 0 ≤ v) (h1 : 1 ≤ k) (hk : k ≤ 8) (hv : v < 256 ^ k) (hl : l.length ≤ 140737488355000) :
    ∃ h', S_manifest_lay (.ptr b 0) v (k : Int) h = some (.tup [], h') ∧ BldN n h' b (l ++ beL v.toNat k) ∧ Cel h h' ∧ Keep n [] h h' := by
  have hs : (⟨(beL v.toNat k).toArray⟩ : ByteArray).size = k := by
    show (beL v.toNat k).toArray.size = k
    rw [List.size_toArray, beL_len]
  obtain ⟨h', a1, a2, a3, a4⟩ := B.write (s := ⟨(beL v.toNat k).toArray⟩) (by rw [hs]; omega) (by rw [hs]; omega)
  refine ⟨h', ?_, a2, a3, a4⟩
  rw [S_manifest_lay_eq, putI_ok h0 h1 hk hv]
  exact bd a1 rfl
def fileL (f : MFile) : List UInt8 := beL f.name.size 1 ++ f.name.data.toList ++ beL f.size.toNat 1 ++ beL f.count.toNat 8 ++ beL f.sum.toNat 4
def manL (m : Man) : List UInt8 := [77, 65, 78, 49] ++ beL m.stage.toNat 2 ++ beL m.pass.toNat 2 ++ beL m.files.length 1 ++ m.files.flatMap fileL
def manP (m : Man) : ByteArray := closeB ⟨(manL m).toArray⟩
theorem name_len (f : MFile) : f.name.data.toList.length = f.name.size := Array.length_toList
theorem fileL_len (f : MFile) : (fileL f).length = f.name.size + 14 := by
  unfold fileL
  simp only [List.length_append, beL_len, name_len]
  omega
/-- What is known of the files of a manifest that may be. -/
structure FOk (f : MFile) : Prop where
  right : rightB f.name = true
  n1 : f.name.size ≠ 0
  n2 : f.name.size ≤ 24
  s1 : 1 ≤ f.size
  s2 : f.size ≤ 64
  c1 : 0 ≤ f.count
  c2 : f.count ≤ 4611686018427387904
  u1 : 0 ≤ f.sum
  u2 : f.sum < 4294967296
theorem fok_of {f : MFile} (h : mayB f = true) (hu : 0 ≤ f.sum ∧ f.sum < 4294967296) : FOk f := by
  unfold mayB at h
  simp only [Bool.and_eq_true, decide_eq_true_eq] at h
  obtain ⟨h1, h2, h3, h4, h5⟩ := h
  have h1' := h1
  unfold rightB at h1'
  simp only [Bool.and_eq_true, Bool.not_eq_true', decide_eq_false_iff_not, decide_eq_true_eq] at h1'
  refine ⟨h1, fun e => h1'.2.1 ?_, by omega, by omega, h3, by omega, h5, hu.1, hu.2⟩
  apply ByteArray.ext
  exact Array.eq_empty_of_size_eq_zero e
structure MOk (m : Man) : Prop where
  s1 : 1 ≤ m.stage
  s2 : m.stage ≤ 7
  p1 : 0 ≤ m.pass
  p2 : m.pass ≤ 1000
  n : m.files.length ≤ 16
  f : ∀ f ∈ m.files, FOk f
theorem filesB_all {fs : List MFile} (h : filesB fs 0 = true) : ∀ f ∈ fs, mayB f = true := by
  intro f hf
  obtain ⟨i, hi, rfl⟩ := List.mem_iff_getElem.1 hf
  unfold filesB at h
  have := List.all_eq_true.1 h i (List.mem_range.2 hi)
  have hg : fs.getD i ⟨⟨#[]⟩, 0, 0, 0⟩ = fs[i] := by simp [List.getD_eq_getElem?_getD, hi]
  rw [hg] at this
  simp at this
  exact this.1
theorem mok_of {m : Man} (h : manB m = true) (hu : ∀ f ∈ m.files, 0 ≤ f.sum ∧ f.sum < 4294967296) : MOk m := by
  unfold manB at h
  simp only [Bool.and_eq_true, Bool.not_eq_true', Bool.or_eq_false_iff, decide_eq_false_iff_not] at h
  obtain ⟨⟨h1, h2, h3, h4, h5⟩, h6⟩ := h
  exact ⟨by omega, by omega, by omega, by omega, by omega, fun f hf => fok_of (filesB_all h6 f hf) (hu f hf)⟩
theorem manL_len {m : Man} (h : MOk m) : (manL m).length ≤ 9 + 38 * m.files.length := by
  unfold manL
  have key : ∀ l : List MFile, (∀ f ∈ l, FOk f) → (l.flatMap fileL).length ≤ 38 * l.length := by
    intro l
    induction l with
    | nil => intro _; simp
    | cons f l ih =>
      intro hf
      have h1 := (hf f (by simp)).n2
      have h2 := ih fun f h => hf f (by simp [h])
      rw [List.flatMap_cons, List.length_append, fileL_len, List.length_cons]
      omega
  have := key m.files h.f
  simp only [List.length_append, beL_len, List.length_cons, List.length_nil]
  omega
theorem mput_loop {n : Nat} {h0 : AHeap} {b : Nat} {v : AVal} {fs : List MFile} (S : Sl 4 h0 v fs.length (filesW fs)) (hf : ∀ f ∈ fs, FOk f) (hn : fs.length ≤ 16) :
    ∀ (k i : Nat) (g : AHeap) (l : List UInt8), i + k = fs.length → Cel h0 g → Keep n [] h0 g → n ≤ h0.length → BldN n g b l → l.length ≤ 100 + 38 * i →
      ∃ g', S_manifest_Put_0 b v (fs.length : Int) (i : Int) g = S_manifest_Put_1 b g' ∧ BldN n g' b (l ++ (fs.drop i).flatMap fileL) ∧ Keep n [] h0 g'
  | 0, i, g, l, hi, C, K, hnh, B, hl => by
    refine ⟨g, ?_, ?_, K⟩
    · rw [S_manifest_Put_0_eq, decide_eq_false (by omega), cond_false]
    · rw [List.drop_of_length_le (by omega)]; simpa using B
  | k + 1, i, g, l, hi, C, K, hnh, B, hl => by
    have hil : i < fs.length := by omega
    obtain ⟨p, e1, e2, _, _⟩ := (S.cel C).idx hil
    rw [show ((filesW fs).drop (i * 4)).take 4 = fs[i].cells from flat_at cells4 fs i hil] at e2
    have hd : fs.drop i = fs[i] :: fs.drop (i + 1) := List.drop_eq_getElem_cons hil
    generalize hfi : fs[i] = f at e2 hd
    have ok : FOk f := by rw [← hfi]; exact hf _ (List.getElem_mem hil)
    obtain ⟨_, o1, o2, o3, o4, o5, o6, o7, o8⟩ := ok
    have c0 : cellsAt (psh g (.cells f.cells)) g.length = some f.cells := cellsAt_new g _
    have K0 : Keep n [] h0 (psh g (.cells f.cells)) := K.trans (Keep.psh _ (Nat.le_trans hnh C.1))
    obtain ⟨g1, a1, B1, C1, K1⟩ := lay_run (B.psh (.cells f.cells)) (v := (f.name.size : Int)) (k := 1) (by omega) (by omega) (by omega) (by omega) (by omega)
    have c1 := C1.2 _ _ c0
    have l1 : (l ++ beL ((f.name.size : Int)).toNat 1).length = l.length + 1 := by simp [beL_len]
    obtain ⟨g2, a2, B2, C2, K2⟩ := B1.write (s := f.name) o1 (by omega)
    have c2 := C2.2 _ _ c1
    have l2 : (l ++ beL ((f.name.size : Int)).toNat 1 ++ f.name.data.toList).length = l.length + 1 + f.name.size := by rw [List.length_append, l1, name_len]
    obtain ⟨g3, a3, B3, C3, K3⟩ := lay_run B2 (v := f.size) (k := 1) (by omega) (by omega) (by omega) (by omega) (by omega)
    have c3 := C3.2 _ _ c2
    have l3 : (l ++ beL ((f.name.size : Int)).toNat 1 ++ f.name.data.toList ++ beL f.size.toNat 1).length = l.length + 2 + f.name.size := by rw [List.length_append, l2, beL_len]; omega
    obtain ⟨g4, a4, B4, C4, K4⟩ := lay_run B3 (v := f.count) (k := 8) (by omega) (by omega) (by omega) (by omega) (by omega)
    have c4 := C4.2 _ _ c3
    have l4 : (l ++ beL ((f.name.size : Int)).toNat 1 ++ f.name.data.toList ++ beL f.size.toNat 1 ++ beL f.count.toNat 8).length = l.length + 10 + f.name.size := by rw [List.length_append, l3, beL_len]; omega
    obtain ⟨g5, a5, B5, C5, K5⟩ := lay_run B4 (v := f.sum) (k := 4) (by omega) (by omega) (by omega) (by omega) (by omega)
    have l5 : (l ++ beL ((f.name.size : Int)).toNat 1 ++ f.name.data.toList ++ beL f.size.toNat 1 ++ beL f.count.toNat 8 ++ beL f.sum.toNat 4).length = l.length + 14 + f.name.size := by rw [List.length_append, l4, beL_len]; omega
    have C' : Cel h0 g5 := C.trans ((Cel.psh _ _).trans (C1.trans (C2.trans (C3.trans (C4.trans C5)))))
    have K' : Keep n [] h0 g5 := ((((K0.trans K1).trans K2).trans K3).trans K4).trans K5
    obtain ⟨g', r1, r2, r3⟩ := mput_loop S hf hn k (i + 1) g5 _ (by omega) C' K' hnh B5 (by omega)
    refine ⟨g', ?_, ?_, r3⟩
    · rw [← r1, S_manifest_Put_0_eq, decide_eq_true (by omega), cond_true]
      refine bd e1 (bd e2 (bd (stn_new rfl rfl rfl) (bd (ld1_of c0) (bd rfl (bd a1 (bd (ld1_of c1) (bd rfl (bd a2 (bd (ld1_of c2) (bd rfl (bd a3 (bd (ld1_of c3) (bd rfl (bd a4 (bd (ld1_of c4) (bd rfl ?_))))))))))))))))
      rw [wrap_i64 (by omega) (by omega)]
      refine bd a5 ?_
      rw [wrap_i64 (by omega) (by omega)]; rfl
    · rw [hd, List.flatMap_cons]
      have : l ++ (fileL f ++ List.flatMap fileL (List.drop (i + 1) fs)) = l ++ beL ((f.name.size : Int)).toNat 1 ++ f.name.data.toList ++ beL f.size.toNat 1 ++ beL f.count.toNat 8 ++ beL f.sum.toNat 4 ++ List.flatMap fileL (List.drop (i + 1) fs) := by
        unfold fileL
        simp only [List.append_assoc, Int.toNat_natCast]
      rw [this]; exact r2
theorem mput_no {m : Man} {v : AVal} {h : AHeap} (S : Sl 4 h v m.files.length (filesW m.files)) (hs : ∀ f ∈ m.files, f.name.size ≤ 9223372036854775807) (hb : manB m = false) : ∃ g, S_manifest_Put (m.cells v) h = some (.tup [.lit (.string ⟨#[]⟩), .lit (.bool false)], g) ∧ Grow h g := by
  have c : cellsAt (psh h (.cells (m.cells v))) h.length = some (m.cells v) := cellsAt_new h _
  have G0 : Grow h (psh h (.cells (m.cells v))) := (Grow.refl h).psh _
  obtain ⟨g, a1, a2⟩ := mright_run (S.grow G0) hs
  rw [hb] at a1
  refine ⟨g, ?_, G0.trans a2⟩
  rw [S_manifest_Put_eq]
  exact bd (ldn_of (n := 3) (off := 0) c (by exact Nat.le_refl _)) (bd a1 (bd rfl rfl))
theorem mput_yes {m : Man} {v : AVal} {h : AHeap} (S : Sl 4 h v m.files.length (filesW m.files)) (hs : ∀ f ∈ m.files, f.name.size ≤ 9223372036854775807) (hb : manB m = true) (hu : ∀ f ∈ m.files, 0 ≤ f.sum ∧ f.sum < 4294967296) :
    ∃ g, S_manifest_Put (m.cells v) h = some (.tup [.lit (.string (manP m)), .lit (.bool true)], g) ∧ Grow h g := by
  have ok := mok_of hb hu
  obtain ⟨o1, o2, o3, o4, o5, o6⟩ := ok
  have c : cellsAt (psh h (.cells (m.cells v))) h.length = some (m.cells v) := cellsAt_new h _
  have G0 : Grow h (psh h (.cells (m.cells v))) := (Grow.refl h).psh _
  obtain ⟨g, a1, a2⟩ := mright_run (S.grow G0) hs
  rw [hb] at a1
  have c0 := a2.cells c
  have G1 : Grow h g := G0.trans a2
  have hhg := G1.len
  have B0 : BldN h.length (psh g (.bld 123 none 0)) g.length [] := BldN.new hhg
  have K0 : Keep h.length [] h (psh g (.bld 123 none 0)) := G1.psh _
  obtain ⟨g1, w1, B1, C1, K1⟩ := B0.write (s := ⟨#[77, 65, 78, 49]⟩) (by decide) (by decide)
  have d1 := C1.2 _ _ (cellsAt_psh (.bld 123 none 0) c0)
  obtain ⟨g2, w2, B2, C2, K2⟩ := lay_run B1 (v := m.stage) (k := 2) (by omega) (by omega) (by omega) (by omega) (by decide)
  have d2 := C2.2 _ _ d1
  have l2 : ([] ++ ([77, 65, 78, 49] : List UInt8) ++ beL m.stage.toNat 2).length = 6 := by simp [beL_len]
  obtain ⟨g3, w3, B3, C3, K3⟩ := lay_run B2 (v := m.pass) (k := 2) (by omega) (by omega) (by omega) (by omega) (by exact l2 ▸ (by decide))
  have d3 := C3.2 _ _ d2
  have l3 : ([] ++ ([77, 65, 78, 49] : List UInt8) ++ beL m.stage.toNat 2 ++ beL m.pass.toNat 2).length = 8 := by simp [beL_len]
  obtain ⟨g4, w4, B4, C4, K4⟩ := lay_run B3 (v := (m.files.length : Int)) (k := 1) (by omega) (by omega) (by omega) (by omega) (by exact l3 ▸ (by decide))
  have d4 := C4.2 _ _ d3
  have l4 : ([] ++ ([77, 65, 78, 49] : List UInt8) ++ beL m.stage.toNat 2 ++ beL m.pass.toNat 2 ++ beL ((m.files.length : Int)).toNat 1).length = 9 := by simp [beL_len]
  have C' : Cel h g4 := (Cel.of (G1.psh _)).trans (C1.trans (C2.trans (C3.trans C4)))
  have K' : Keep h.length [] h g4 := (((K0.trans K1).trans K2).trans K3).trans K4
  obtain ⟨g5, r1, B5, K5⟩ := mput_loop (n := h.length) (b := g.length) S o6 o5 m.files.length 0 g4 _ (by omega) C' K' (Nat.le_refl _) B4 (Nat.le_trans (Nat.le_of_eq l4) (by omega))
  obtain ⟨g6, s1, C6, K6⟩ := B5.string
  have hL : [] ++ ([77, 65, 78, 49] : List UInt8) ++ beL m.stage.toNat 2 ++ beL m.pass.toNat 2 ++ beL ((m.files.length : Int)).toNat 1 ++ List.flatMap fileL (List.drop 0 m.files) = manL m := by
    unfold manL
    simp only [List.nil_append, List.drop_zero, Int.toNat_natCast]
  have hlen := manL_len ⟨o1, o2, o3, o4, o5, o6⟩
  rw [show ([] : List UInt8) ++ (⟨#[77, 65, 78, 49]⟩ : ByteArray).data.toList = [] ++ [77, 65, 78, 49] from rfl] at s1
  rw [hL] at s1
  have hcl : closeO ⟨(manL m).toArray⟩ = some (manP m) := closeO_some (by
    show (manL m).toArray.size ≤ _
    rw [List.size_toArray]; omega)
  refine ⟨g6, ?_, K5.trans K6⟩
  rw [S_manifest_Put_eq]
  refine bd (ldn_of (n := 3) (off := 0) c (by exact Nat.le_refl _)) (bd a1 (bd rfl ?_))
  show ((bldW (psh g (.bld 123 none 0)) (.ptr g.length 0) (⟨#[77, 65, 78, 49]⟩ : ByteArray)).bind _) = _
  refine bd w1 (bd (ld1_of d1) (bd rfl (bd w2 (bd (ld1_of d2) (bd rfl (bd w3 (bd (ld1_of d3) (bd (S.cel ((Cel.of (G1.psh _)).trans (C1.trans (C2.trans C3)))).len (bd w4 (bd (ld1_of d4) (bd (S.cel C').len ?_)))))))))))
  show S_manifest_Put_0 g.length v (m.files.length : Int) ((0 : Nat) : Int) g4 = _
  rw [r1, S_manifest_Put_1_eq]
  exact bd s1 (bd rfl (bd hcl rfl))
end Go.Proofs.Yteclkehnppeobaa.AL
/- What is read of a manifest's bytes. -/
namespace Go.Proofs.Yteclkehnppeobaa.AL
set_option linter.unusedVariables false
set_option linter.unusedSimpArgs false
set_option maxRecDepth 100000
open Go
open Go.Proofs.Try
abbrev bs (l : List UInt8) : ByteArray := ⟨l.toArray⟩
theorem bs_size (l : List UInt8) : (bs l).size = l.length := by show l.toArray.size = _; rw [List.size_toArray]
theorem bs_pre (a t : List UInt8) : (bs (a ++ t)).extract 0 a.length = bs a := by
  apply ByteArray.ext
  rw [ByteArray.data_extract]
  apply Array.toList_inj.1
  rw [Array.toList_extract, List.extract_eq_take_drop]
  simp
theorem bs_suf (a t : List UInt8) : (bs (a ++ t)).extract a.length (bs (a ++ t)).size = bs t := by
  apply ByteArray.ext
  rw [ByteArray.data_extract]
  apply Array.toList_inj.1
  rw [Array.toList_extract, List.extract_eq_take_drop, bs_size]
  simp
theorem cut_pre (a t : List UInt8) : cutS (bs (a ++ t)) 0 (a.length : Int) = some (bs a) := by
  unfold cutS
  rw [req_true (by rw [bs_size, List.length_append]; omega), Option.bind_some, Int.toNat_natCast, show (0 : Int).toNat = 0 from rfl, bs_pre]
theorem cut_suf (a t : List UInt8) : cutS (bs (a ++ t)) (a.length : Int) ((bs (a ++ t)).size : Int) = some (bs t) := by
  unfold cutS
  rw [req_true (by rw [bs_size, List.length_append]; omega), Option.bind_some, Int.toNat_natCast, Int.toNat_natCast, bs_suf]
theorem bs_data (s : ByteArray) : bs s.data.toList = s := by apply ByteArray.ext; exact Array.toArray_toList
theorem blitS_agg {k : Nat} {zs xs : List AVal} {h : AHeap} (hz : zs.length = k) (hx : xs.length = k) (hk : k ≤ 16777216) : blitS k zs 1 [(0, .agg xs)] h = some (.sl k h.length 0 1, h ++ [.cells xs]) := by
  have := blit_agg hz hx hk
  unfold blitA at this
  unfold blitS
  rw [req_true (by omega)] at this ⊢
  simp only [Option.bind_some] at this ⊢
  rw [this]; rfl
/-- A cursor's cells. -/
def curC (l : List UInt8) : List AVal := [.lit (.string (bs l)), .lit (.bool false)]
/-- Just one object is turned. -/
structure One (c : Nat) (cs : List AVal) (h h' : AHeap) : Prop where
  at_ : cellsAt h' c = some cs
  oth : ∀ b, b ≠ c → h'[b]? = h[b]?
  len : h'.length = h.length
theorem take_run {h : AHeap} {c : Nat} (a t : List UInt8) (H : cellsAt h c = some (curC (a ++ t))) : ∃ h', S_manifest_bytes_take (.ptr c 0) (a.length : Int) h = some (.tup [.lit (.string (bs a)), .lit (.bool true)], h') ∧ One c (curC t) h h' := by
  refine ⟨h.set c (.cells (curC t)), ?_, cellsAt_set H, fun b hb => List.getElem?_set_ne (Ne.symm hb), by simp⟩
  rw [S_manifest_bytes_take_eq]
  refine bd rfl (bd rfl (bd (ld1_of H) (bd rfl (cF (decide_eq_false (by rw [bs_size, List.length_append]; omega)) (bd rfl (bd rfl (bd (ld1_of H) (bd rfl (bd (cut_pre a t) (bd rfl (bd rfl (bd (ld1_of H) (bd rfl (bd (cut_suf a t) (bd rfl (bd rfl (bd (st1_of H rfl (Nat.zero_lt_succ _)) rfl)))))))))))))))))
theorem number_run {h : AHeap} {c : Nat} {n k : Nat} (t : List UInt8) (H : cellsAt h c = some (curC (beL n k ++ t))) (h1 : 1 ≤ k) (hk : k ≤ 8) (hn : n < 256 ^ k) (h63 : n < 9223372036854775808) :
    ∃ h', S_manifest_cursor_number (.ptr c 0) (k : Int) h = some (.lit (.int .i64 (n : Int)), h') ∧ One c (curC t) h h' := by
  obtain ⟨h1', e1, O1⟩ := take_run (beL n k) t H
  rw [beL_len] at e1
  refine ⟨h1'.set c (.cells (curC t)), ?_, cellsAt_set O1.at_, fun b hb => (List.getElem?_set_ne (Ne.symm hb)).trans (O1.oth b hb), by simp [O1.len]⟩
  have fin : S_manifest_cursor_number_1 (n : Int) (.ptr c 0) false h1' = some (.lit (.int .i64 (n : Int)), h1'.set c (.cells (curC t))) := by
    rw [S_manifest_cursor_number_1_eq]
    exact bd rfl (bd rfl (bd (st1_of O1.at_ rfl (Nat.le_refl _)) rfl))
  rw [S_manifest_cursor_number_eq]
  refine bd rfl (bd rfl (bd e1 (bd rfl (bd rfl (bd rfl (bd rfl (bd (getO_be h1 hk hn h63) (bd rfl (bd rfl (bd (ld1_of O1.at_) (bd rfl ?_)))))))))))
  show S_manifest_cursor_number_0 (n : Int) true (.ptr c 0) false h1' = _
  rw [S_manifest_cursor_number_0_eq]
  exact fin
theorem text_run {h : AHeap} {c : Nat} (a t : List UInt8) (H : cellsAt h c = some (curC (a ++ t))) :
    ∃ h', S_manifest_cursor_text (.ptr c 0) (a.length : Int) h = some (.lit (.string (bs a)), h') ∧ One c (curC t) h h' := by
  obtain ⟨h1', e1, O1⟩ := take_run a t H
  refine ⟨h1'.set c (.cells (curC t)), ?_, cellsAt_set O1.at_, fun b hb => (List.getElem?_set_ne (Ne.symm hb)).trans (O1.oth b hb), by simp [O1.len]⟩
  rw [S_manifest_cursor_text_eq]
  refine bd rfl (bd rfl (bd e1 (bd rfl (bd rfl (bd rfl (bd rfl (bd rfl (bd rfl (bd (ld1_of O1.at_) (bd rfl ?_))))))))))
  show S_manifest_cursor_text_0 (bs a) (.ptr c 0) false h1' = _
  rw [S_manifest_cursor_text_0_eq]
  exact bd rfl (bd rfl (bd (st1_of O1.at_ rfl (Nat.le_refl _)) rfl))
theorem One.cells {c : Nat} {cs : List AVal} {h h' : AHeap} (O : One c cs h h') {b : Nat} {ds : List AVal} (hb : b ≠ c) (H : cellsAt h b = some ds) : cellsAt h' b = some ds := by
  have := cellsAt_some H
  unfold cellsAt
  rw [O.oth b hb, this]
theorem file_run {h : AHeap} {c : Nat} {f : MFile} (ok : FOk f) (t : List UInt8) (H : cellsAt h c = some (curC (fileL f ++ t))) :
    ∃ h', S_manifest_cursor_file (.ptr c 0) h = some (.agg f.cells, h') ∧ cellsAt h' c = some (curC t) ∧ (∀ b, b < h.length → b ≠ c → h'[b]? = h[b]?) ∧ h'.length = h.length + 1 := by
  obtain ⟨_, o1, o2, o3, o4, o5, o6, o7, o8⟩ := ok
  have hcl := cellsAt_lt H
  have e0 : fileL f ++ t = beL f.name.size 1 ++ (f.name.data.toList ++ (beL f.size.toNat 1 ++ (beL f.count.toNat 8 ++ (beL f.sum.toNat 4 ++ t)))) := by
    unfold fileL
    simp only [List.append_assoc]
  rw [e0] at H
  obtain ⟨h1, a1, O1⟩ := number_run _ (cellsAt_psh (.cells [.lit (.string { data := #[] }), .lit (.int .i64 0), .lit (.int .i64 0), .lit (.int .u32 0)]) H) (by omega) (by omega) (by omega) (by omega)
  obtain ⟨h2, a2, O2⟩ := text_run _ _ O1.at_
  rw [name_len, bs_data] at a2
  obtain ⟨h3, a3, O3⟩ := number_run _ O2.at_ (by omega) (by omega) (by omega) (by omega)
  obtain ⟨h4, a4, O4⟩ := number_run _ O3.at_ (by omega) (by omega) (by omega) (by omega)
  obtain ⟨h5, a5, O5⟩ := number_run _ O4.at_ (by omega) (by omega) (by omega) (by omega)
  have hne : h.length ≠ c := by omega
  have z : cellsAt h5 h.length = some [.lit (.string { data := #[] }), .lit (.int .i64 0), .lit (.int .i64 0), .lit (.int .u32 0)] := O5.cells hne (O4.cells hne (O3.cells hne (O2.cells hne (O1.cells hne (cellsAt_new h _)))))
  have c1 : ((f.size.toNat : Nat) : Int) = f.size := by omega
  have c2 : ((f.count.toNat : Nat) : Int) = f.count := by omega
  have c3 : ((f.sum.toNat : Nat) : Int) = f.sum := by omega
  rw [c1] at a3
  rw [c2] at a4
  rw [c3] at a5
  have w : IntKind.wrap .u32 f.sum = f.sum := by rw [← c3]; exact wrap_u32' (by omega)
  have len5 : h5.length = h.length + 1 := by rw [O5.len, O4.len, O3.len, O2.len, O1.len, psh_length]
  refine ⟨h5.set h.length (.cells f.cells), ?_, cellsAt_set_ne _ hne O5.at_, fun b hb hbc => ?_, by rw [List.length_set, len5]⟩
  · rw [S_manifest_cursor_file_eq]
    refine bd a1 (bd rfl (bd a2 (bd rfl (bd a3 (bd rfl (bd a4 (bd rfl (bd a5 (bd rfl ?_)))))))))
    rw [w]
    refine bd (stAll (n := 4) (vs := f.cells) z rfl rfl rfl) ?_
    exact bd (ldn_of (n := 4) (off := 0) (cellsAt_set z) (by exact Nat.le_refl _)) rfl
  · rw [List.getElem?_set_ne (by omega), O5.oth b hbc, O4.oth b hbc, O3.oth b hbc, O2.oth b hbc, O1.oth b hbc]
    show (h ++ [_])[b]? = _
    rw [List.getElem?_append_left hb]
def manC (m : Man) (v : AVal) : List AVal := m.cells v
theorem mget_loop {n : Nat} {h0 : AHeap} {r c mm : Nat} {m : Man} (ok : MOk m) (hr : r ≠ c ∧ r ≠ mm) (hc : n ≤ c) (hm : n ≤ mm) (hcm : c ≠ mm) : ∀ (k i : Nat) (g : AHeap) (v : AVal), i + k = m.files.length → Keep n [] h0 g → n ≤ h0.length → cellsAt g c = some (curC ((m.files.drop i).flatMap fileL)) →
    cellsAt g mm = some (m.cells v) → Own 4 g v i (filesW (m.files.take i)) → (∀ b, At v b → b ≠ c ∧ b ≠ mm ∧ b ≠ r ∧ n ≤ b) → r < g.length →
      ∃ g' v', S_manifest_Get_1 r c mm (k : Int) g = S_manifest_Get_3 r c mm g' ∧ Keep n [] h0 g' ∧ cellsAt g' c = some (curC []) ∧ cellsAt g' mm = some (m.cells v') ∧ Own 4 g' v' m.files.length (filesW m.files) ∧ (∀ b, At v' b → b ≠ c ∧ b ≠ mm ∧ b ≠ r ∧ n ≤ b) ∧ g'[r]? = g[r]?
  | 0, i, g, v, hi, K, hn, Hc, Hm, O, hv, hrl => by
    obtain rfl : i = m.files.length := by omega
    refine ⟨g, v, ?_, K, by simpa using Hc, Hm, by simpa using O, hv, rfl⟩
    rw [S_manifest_Get_1_eq, decide_eq_false (by omega), cond_false, S_manifest_Get_2_eq]; rfl
  | k + 1, i, g, v, hi, K, hn, Hc, Hm, O, hv, hrl => by
    have hil : i < m.files.length := by omega
    have hd : m.files.drop i = m.files[i] :: m.files.drop (i + 1) := List.drop_eq_getElem_cons hil
    have ht : m.files.take (i + 1) = m.files.take i ++ [m.files[i]] := (List.take_append_getElem hil).symm
    rw [hd, List.flatMap_cons] at Hc
    have hl16 := ok.n
    generalize hf : m.files[i] = f at Hc hd ht
    have okf : FOk f := by rw [← hf]; exact ok.f _ (List.getElem_mem hil)
    obtain ⟨g1, a1, Hc1, o1, l1⟩ := file_run okf _ Hc
    have hcl := cellsAt_lt Hc
    have hml := cellsAt_lt Hm
    have Hm1 : cellsAt g1 mm = some (m.cells v) := by
      have := cellsAt_some Hm
      unfold cellsAt
      rw [o1 mm hml (Ne.symm hcm), this]
    have O1 : Own 4 g1 v i (filesW (m.files.take i)) := O.keep fun b hb => o1 b (At.own O hb) (hv b hb).1
    obtain ⟨v', g2, p1, p2, p3, p4, p5, p6⟩ := push_app (w := 40) O1 (xs := f.cells) rfl rfl (by omega)
    have hcg1 : c < g1.length := cellsAt_lt Hc1
    have hmg1 : mm < g1.length := cellsAt_lt Hm1
    have atv : ∀ b, At v b → b ≠ c ∧ b ≠ mm := fun b hb => ⟨(hv b hb).1, (hv b hb).2.1⟩
    have Hc2 : cellsAt g2 c = some (curC ((m.files.drop (i + 1)).flatMap fileL)) := by
      have := cellsAt_some Hc1
      unfold cellsAt
      rw [p6 c hcg1 (fun h => (atv c h).1 rfl), this]
    have Hm2 : cellsAt g2 mm = some (m.cells v) := by
      have := cellsAt_some Hm1
      unfold cellsAt
      rw [p6 mm hmg1 (fun h => (atv mm h).2 rfl), this]
    have hv' : ∀ b, At v' b → b ≠ c ∧ b ≠ mm ∧ b ≠ r ∧ n ≤ b := fun b hb => by
      have := p5 b hb
      have := K.len
      omega
    have K2 : Keep n [] h0 g2 := ⟨by have := K.len; omega, fun b hb hx => by
      rw [p6 b (by have := K.len; omega) (fun h => by have := (hv b h).2.2.2; omega), o1 b (by have := K.len; omega) (by omega)]
      exact K.get b hb hx⟩
    have K3 : Keep n [] h0 (g2.set mm (.cells (m.cells v'))) := K2.trans (Keep.set (.inl hm))
    have O3 : Own 4 (g2.set mm (.cells (m.cells v'))) v' (i + 1) (filesW (m.files.take (i + 1))) := by
      have e : filesW (m.files.take (i + 1)) = filesW (m.files.take i) ++ f.cells := by
        unfold filesW
        rw [ht, List.flatMap_append, List.flatMap_cons, List.flatMap_nil, List.append_nil]
      rw [e]
      exact p2.keep fun b hb => List.getElem?_set_ne (Ne.symm (hv' b hb).2.1)
    obtain ⟨g', w, r1, r2, r3, r4, r5, r6, r7⟩ := mget_loop ok hr hc hm hcm k (i + 1) (g2.set mm (.cells (m.cells v'))) v' (by omega) K3 hn (cellsAt_set_ne _ (Ne.symm hcm) Hc2) (cellsAt_set Hm2) O3 hv' (by rw [List.length_set]; omega)
    refine ⟨g', w, ?_, r2, r3, r4, r5, r6, ?_⟩
    · rw [← r1, S_manifest_Get_1_eq, decide_eq_true (by omega), cond_true]
      refine bd (ld1_of Hc) (bd rfl ?_)
      show S_manifest_Get_2 r c mm ((k + 1 : Nat) : Int) true g = _
      rw [S_manifest_Get_2_eq, cond_true]
      have hmv : (m.cells v)[2]? = some v := rfl
      have Hm1' : cellsAt (g1 ++ [AObj.cells f.cells]) mm = some (m.cells v) := cellsAt_more _ Hm1
      refine bd ((ld1_of Hm).trans hmv) (bd a1 (bd rfl (bd (reqC_true (by rw [ld1_of Hm1, hmv]; rfl)) (bd (blitS_agg rfl rfl (by omega)) (bd (reqC_true (by rw [ld1_of Hm1', hmv]; rfl)) (bd p1 ?_))))))
      refine bd (st1_of (cs := m.cells v) (x := v') Hm2 ?_ (Nat.le_refl _)) ?_
      · obtain ⟨_, ⟨rfl, _⟩ | ⟨_, rfl, _⟩⟩ := p2 <;> rfl
      · rw [wrap_i64 (by omega) (by omega), show ((k + 1 : Nat) : Int) - 1 = (k : Int) by omega]; rfl
    · rw [r7, List.getElem?_set_ne (Ne.symm hr.2), p6 r (by omega) (fun h => (hv r h).2.2.1 rfl), o1 r hrl hr.1]
theorem mget_run {m : Man} (hb : manB m = true) (hu : ∀ f ∈ m.files, 0 ≤ f.sum ∧ f.sum < 4294967296) (h : AHeap) :
    ∃ g v, S_manifest_Get (manP m) h = some (.tup [.agg (m.cells v), .lit (.bool true)], g) ∧ Sl 4 g v m.files.length (filesW m.files) ∧ Grow h g ∧ (∀ b, At v b → h.length ≤ b) := by
  have ok := mok_of hb hu
  obtain ⟨o1, o2, o3, o4, o5, o6⟩ := ok
  have hlen := manL_len ⟨o1, o2, o3, o4, o5, o6⟩
  have hop : openO (manP m) = some (some (bs (manL m))) := by
    have : (manP m).size ≤ 4611686018427387904 := by
      unfold manP
      rw [closeB_size]
      show (manL m).toArray.size + 4 ≤ _
      rw [List.size_toArray]; omega
    rw [openO_some this]
    unfold manP
    rw [open_close]
  have e0 : manL m = [77, 65, 78, 49] ++ (beL m.stage.toNat 2 ++ (beL m.pass.toNat 2 ++ (beL m.files.length 1 ++ m.files.flatMap fileL))) := by
    unfold manL
    simp only [List.append_assoc]
  have hpre : ∀ g, S_strings_HasPrefix (bs (manL m)) (⟨#[77, 65, 78, 49]⟩ : ByteArray) g = some (.lit (.bool true), g) := fun g => by
    have e1 : S_internal_stringslite_HasPrefix (bs (manL m)) (⟨#[77, 65, 78, 49]⟩ : ByteArray) g = some (.lit (.bool true), g) := by
      rw [S_internal_stringslite_HasPrefix_eq]
      refine cT (decide_eq_true ?_) (bd (a := bs [77, 65, 78, 49]) ?_ ?_)
      · rw [bs_size, e0, List.length_append]; show ((_ + _ : Nat) : Int) ≥ 4; simp; omega
      · rw [e0]; exact cut_pre [77, 65, 78, 49] _
      · rw [S_internal_stringslite_HasPrefix_0_eq]; rfl
    rw [S_strings_HasPrefix_eq, e1, onlyR_same]; rfl
  -- the result's cells, the cursor, the manifest
  have z0 : cellsAt (psh h (.cells [.lit (.int .i64 0), .lit (.int .i64 0), .lit (.slice none 0 0)])) h.length = some [.lit (.int .i64 0), .lit (.int .i64 0), .lit (.slice none 0 0)] := cellsAt_new h _
  generalize hh1 : psh h (.cells [.lit (.int .i64 0), .lit (.int .i64 0), .lit (.slice none 0 0)]) = h1 at z0
  have l1 : h1.length = h.length + 1 := by rw [← hh1, psh_length]
  have K1 : Keep h.length [] h h1 := by rw [← hh1]; exact (Grow.refl h).psh _
  have H2 : cellsAt (psh h1 (.cells (curC (beL m.stage.toNat 2 ++ (beL m.pass.toNat 2 ++ (beL m.files.length 1 ++ m.files.flatMap fileL)))))) h1.length = some (curC (beL m.stage.toNat 2 ++ (beL m.pass.toNat 2 ++ (beL m.files.length 1 ++ m.files.flatMap fileL)))) := cellsAt_new h1 _
  obtain ⟨h3, a3, O3⟩ := number_run _ H2 (by omega) (by omega) (by omega) (by omega)
  obtain ⟨h4, a4, O4⟩ := number_run _ O3.at_ (by omega) (by omega) (by omega) (by omega)
  have l4 : h4.length = h1.length + 1 := by rw [O4.len, O3.len, psh_length]
  have cs : ((m.stage.toNat : Nat) : Int) = m.stage := by omega
  have cp : ((m.pass.toNat : Nat) : Int) = m.pass := by omega
  rw [cs] at a3
  rw [cp] at a4
  have H5 : cellsAt (psh h4 (.cells (m.cells (.lit (.slice none 0 0))))) h4.length = some (m.cells (.lit (.slice none 0 0))) := cellsAt_new h4 _
  obtain ⟨h6, a6, O6⟩ := number_run _ (cellsAt_psh (.cells (m.cells (.lit (.slice none 0 0)))) O4.at_) (by omega) (by omega) (by omega) (by omega)
  have hne : h4.length ≠ h1.length := by omega
  have Hm6 : cellsAt h6 h4.length = some (m.cells (.lit (.slice none 0 0))) := O6.cells hne H5
  have K6 : Keep h.length [] h h6 := ⟨by rw [O6.len, psh_length]; omega, fun b hb hx => by
    rw [O6.oth b (by omega)]
    show (h4 ++ [_])[b]? = _
    rw [List.getElem?_append_left (by omega), O4.oth b (by omega), O3.oth b (by omega)]
    show (h1 ++ [_])[b]? = _
    rw [List.getElem?_append_left (by omega)]
    exact K1.get b hb hx⟩
  have z6 : cellsAt h6 h.length = some [.lit (.int .i64 0), .lit (.int .i64 0), .lit (.slice none 0 0)] := by
    refine O6.cells (by omega) (cellsAt_psh _ (O4.cells (by omega) (O3.cells (by omega) (cellsAt_psh _ z0))))
  obtain ⟨h7, v, r1, r2, r3, r4, r5, r6, r7⟩ := mget_loop (n := h.length) (h0 := h) (r := h.length) (c := h1.length) (mm := h4.length) (m := m) ⟨o1, o2, o3, o4, o5, o6⟩ ⟨by omega, by omega⟩ (by omega) (by omega) (by omega) m.files.length 0 h6 (.lit (.slice none 0 0)) (by omega) K6 (Nat.le_refl _)
    (by simpa using O6.at_) Hm6 (Own.nil 4 _) (fun b hb => by obtain ⟨_, _, _, hb⟩ := hb; cases hb) (by rw [O6.len, psh_length]; omega)
  obtain ⟨h8, a8, G8⟩ := mright_run (m := m) (v := v) r5.sl (fun f hf => by have := (o6 f hf).n2; omega)
  rw [hb] at a8
  have z7 : cellsAt h7 h.length = some [.lit (.int .i64 0), .lit (.int .i64 0), .lit (.slice none 0 0)] := by
    have := cellsAt_some z6
    unfold cellsAt
    rw [r7, this]
  have z8 := G8.cells z7
  have m8 := G8.cells r4
  have hv1 : (m.cells v).all (·.one) = true := by
    obtain ⟨_, ⟨rfl, _⟩ | ⟨_, rfl, _⟩⟩ := r5 <;> rfl
  refine ⟨h8.set h.length (.cells (m.cells v)), v, ?_, ?_, ?_, fun b hb => (r6 b hb).2.2.2⟩
  · rw [S_manifest_Get_eq, hh1]
    refine bd hop (cF rfl (bd (by rw [show ((some (bs (manL m))).getD ⟨#[]⟩) = bs (manL m) from rfl, hpre, onlyR_same]) (bd rfl ?_)))
    show S_manifest_Get_0 h.length (bs (manL m)) false h1 = _
    rw [S_manifest_Get_0_eq]
    refine cF rfl (bd (a := bs (beL m.stage.toNat 2 ++ (beL m.pass.toNat 2 ++ (beL m.files.length 1 ++ m.files.flatMap fileL)))) (by rw [e0]; exact cut_suf [77, 65, 78, 49] _) ?_)
    refine bd a3 (bd rfl (bd a4 (bd rfl (bd (stn_new rfl rfl rfl) (bd a6 (bd rfl ?_))))))
    show S_manifest_Get_1 h.length h1.length h4.length (m.files.length : Int) h6 = _
    rw [r1, S_manifest_Get_3_eq]
    refine bd (ld1_of r3) (bd rfl (cF rfl (bd (ld1_of r3) (bd rfl ?_))))
    show S_manifest_Get_4 h.length h4.length (!decide (bs [] = (⟨#[]⟩ : ByteArray))) h7 = _
    rw [show decide (bs [] = (⟨#[]⟩ : ByteArray)) = true from rfl, S_manifest_Get_4_eq]
    refine cF rfl (bd (ldn_of (n := 3) (off := 0) r4 (by exact Nat.le_refl _)) (bd a8 (bd rfl ?_)))
    show S_manifest_Get_5 h.length h4.length false h8 = _
    rw [S_manifest_Get_5_eq]
    exact cF rfl (bd (ldn_of (n := 3) (off := 0) m8 (by exact Nat.le_refl _)) (bd (stAll (n := 3) (vs := m.cells v) z8 rfl rfl hv1) (bd (ldn_of (n := 3) (off := 0) (cellsAt_set z8) (by exact Nat.le_refl _)) rfl)))
  · refine (r5.grow G8).sl.keep (X := [h.length]) (Keep.set (.inr (by simp))) fun b off len e => ?_
    have := (r6 b ⟨_, _, _, e⟩).2.2.1
    simpa using this
  · exact (r2.trans (G8.less r2.len (fun c hc => by cases hc))).trans (Keep.set (.inl (Nat.le_refl _)))
end Go.Proofs.Yteclkehnppeobaa.AL
/- The disk, as it runs: what each call does to a disk that was made. -/
namespace Go.Proofs.Yteclkehnppeobaa.AL
set_option linter.unusedVariables false
set_option linter.unusedSimpArgs false
set_option maxRecDepth 100000
open Go
open Go.Proofs.Try

/-- Begins a call: the machine is down, or it is not. -/
def downN (D : Dsk) : Bool := D.down || decide (D.fuse = 0)
def callD (D : Dsk) : Dsk := { D with calls := IntKind.wrap .i64 (D.calls + 1), down := downN D, fuse := if D.fuse > -1 then IntKind.wrap .i64 (D.fuse - 1) else D.fuse }
section run
variable {h0 h : AHeap} {d mb : Nat} {D : Dsk} {es : List (Value × AVal)} {l : List File}
theorem dskC_len : (dskC mb D).length = 7 := rfl
theorem given_run (H : DH h0 h d mb (dskC mb D) es) : onlyR (S_fs_Disk_given (.ptr d 0) h) h = some (.lit (.bool true)) := by
  rw [show S_fs_Disk_given (.ptr d 0) h = some (.lit (.bool true), h) from ?_, onlyR_same]
  rw [S_fs_Disk_given_eq]
  refine bd rfl (cT rfl (bd rfl (bd rfl (bd (H.ld (k := 0) rfl) (bd rfl ?_)))))
  exact S_fs_Disk_given_0_eq _ _
theorem call_not (H : DH h0 h d mb (dskC mb D) es) : S_fs_Disk_call (.ptr d 0) false h = some (.lit (.int .i64 1), h) := by
  rw [S_fs_Disk_call_eq]
  refine bd (given_run H) (bd rfl (cF rfl ?_))
  rw [S_fs_Disk_call_0_eq]; rfl
theorem call_may (H : DH h0 h d mb (dskC mb D) es) : ∃ h', S_fs_Disk_call (.ptr d 0) true h = some (.lit (.int .i64 (if downN D then 5 else 0)), h') ∧ DH h0 h' d mb (dskC mb (callD D)) es ∧ Tmp h0 h h' ∧ h'.length = h.length := by
  obtain ⟨h1, e1, H1, T1, l1⟩ := H.std (k := 6) (v := .lit (.int .i64 (IntKind.wrap .i64 (D.calls + 1)))) (by rw [dskC_len]; omega) rfl
  obtain ⟨h2, e2, H2, T2, l2⟩ := H1.std (k := 5) (v := .lit (.bool (downN D))) (by rw [List.length_set, dskC_len]; omega) rfl
  obtain ⟨h3, H3, T3, l3, e3⟩ : ∃ h3, DH h0 h3 d mb (dskC mb (callD D)) es ∧ Tmp h0 h2 h3 ∧ h3.length = h2.length ∧ S_fs_Disk_call_1 (.ptr d 0) (.ptr d 0) (downN D) h1 = S_fs_Disk_call_2 (.ptr d 0) h3 := by
    by_cases hf : D.fuse > -1
    · obtain ⟨h3, e3, H3, T3, l3⟩ := H2.std (k := 4) (v := .lit (.int .i64 (IntKind.wrap .i64 (D.fuse - 1)))) (by rw [List.length_set, List.length_set, dskC_len]; omega) rfl
      refine ⟨h3, ?_, T3, l3, ?_⟩
      · have e : (((dskC mb D).set 6 (.lit (.int .i64 (IntKind.wrap .i64 (D.calls + 1))))).set 5 (.lit (.bool (downN D)))).set 4 (.lit (.int .i64 (IntKind.wrap .i64 (D.fuse - 1)))) = dskC mb (callD D) := by
          unfold callD; rw [if_pos hf]; rfl
        rw [← e]; exact H3
      · rw [S_fs_Disk_call_1_eq]
        exact bd rfl (bd rfl (bd e2 (bd rfl (bd rfl (bd (H2.ld (k := 4) rfl) (bd rfl (cT (decide_eq_true hf) (bd rfl (bd rfl (bd (H2.ld (k := 4) rfl) (bd rfl (bd rfl (bd rfl (bd e3 rfl))))))))))))))
    · refine ⟨h2, ?_, Tmp.refl, rfl, ?_⟩
      · have e : ((dskC mb D).set 6 (.lit (.int .i64 (IntKind.wrap .i64 (D.calls + 1))))).set 5 (.lit (.bool (downN D))) = dskC mb (callD D) := by
          unfold callD; rw [if_neg hf]; rfl
        rw [← e]; exact H2
      · rw [S_fs_Disk_call_1_eq]
        exact bd rfl (bd rfl (bd e2 (bd rfl (bd rfl (bd (H2.ld (k := 4) rfl) (bd rfl (cF (decide_eq_false hf) rfl)))))))
  refine ⟨h3, ?_, H3, (T1.trans T2 (by omega)).trans T3 (by omega), by omega⟩
  rw [S_fs_Disk_call_eq]
  refine bd (given_run H) (bd rfl (cF rfl ?_))
  rw [S_fs_Disk_call_0_eq]
  refine cF rfl (bd rfl (bd rfl (bd (H.ld (k := 6) rfl) (bd rfl (bd rfl (bd rfl (bd e1 (bd rfl (bd rfl (bd (H1.ld (k := 5) rfl) (bd rfl ?_)))))))))))
  have fin : S_fs_Disk_call_1 (.ptr d 0) (.ptr d 0) (downN D) h1 = some (.lit (.int .i64 (if downN D then 5 else 0)), h3) := by
    rw [e3, S_fs_Disk_call_2_eq]
    refine bd rfl (bd rfl (bd (H3.ld (k := 5) rfl) (bd rfl ?_)))
    show cond (downN D) _ _ = _
    cases downN D <;> rfl
  cases hd : D.down with
  | true =>
    show S_fs_Disk_call_1 _ _ true h1 = _
    have : downN D = true := by unfold downN; rw [hd]; rfl
    rw [this] at fin ⊢; exact fin
  | false =>
    refine cF rfl (bd rfl (bd rfl (bd (H1.ld (k := 4) rfl) (bd rfl ?_))))
    have : downN D = decide (D.fuse = 0) := by unfold downN; rw [hd]; rfl
    rw [← this]; exact fin

/-- What 'find' tells: the file, or why there is none. -/
def findR (D : Dsk) (l : List File) (name : ByteArray) (may : Bool) : (ByteArray × Int) × Int := if may && rightB name then (if downN D then ((⟨#[]⟩, 0), 5) else match fask l name with
    | some x => (x, 0)
    | none => ((⟨#[]⟩, 0), 2)) else ((⟨#[]⟩, 0), 1)
def findD (D : Dsk) (name : ByteArray) (may : Bool) : Dsk := if may && rightB name then callD D else D
theorem find_run (H : DH h0 h d mb (dskC mb D) (fileE l)) (name : ByteArray) (hn : name.size ≤ 9223372036854775807) (may : Bool) :
    ∃ h', S_fs_Disk_find (.ptr d 0) name may h = some (.tup [.agg (fileC (findR D l name may).1.1 (findR D l name may).1.2), .lit (.int .i64 (findR D l name may).2)], h') ∧ DH h0 h' d mb (dskC mb (findD D name may)) (fileE l) ∧ Tmp h0 h h' ∧ h.length ≤ h'.length := by
  have hN := H.keep.len
  obtain ⟨H1, T1⟩ := H.psh (.cells zfC)
  have hc1 : cellsAt (psh h (.cells zfC)) h.length = some zfC := cellsAt_new h zfC
  suffices key : ∀ ok, ok = (may && rightB name) → ∃ h', S_fs_Disk_find_0 (.ptr d 0) name h.length (.ptr d 0) ok (psh h (.cells zfC)) = some (.tup [.agg (fileC (findR D l name may).1.1 (findR D l name may).1.2), .lit (.int .i64 (findR D l name may).2)], h') ∧ DH h0 h' d mb (dskC mb (findD D name may)) (fileE l) ∧ Tmp h0 h h' ∧ h.length ≤ h'.length by
    obtain ⟨h', e, r⟩ := key _ rfl
    refine ⟨h', ?_, r⟩
    rw [S_fs_Disk_find_eq]
    cases may with
    | true => exact cT rfl (bd (req_true hn) e)
    | false => exact cF rfl e
  intro ok hok
  unfold findR findD
  rw [← hok]
  cases ok with
  | false =>
    obtain ⟨h2, e2, H2, c2, l2, o2⟩ := H1.tstn (f := h.length) (n := 2) (vs := zfC) hN hc1 rfl rfl rfl
    refine ⟨h2, ?_, H2, fun c hc hl => (o2 c (by omega)).trans (T1 c hc hl), by rw [l2, psh_length]; omega⟩
    rw [S_fs_Disk_find_0_eq]
    exact bd (call_not H1) (bd rfl (cT rfl (bd e2 (bd (ldn_of (n := 2) (off := 0) c2 (Nat.le_refl _)) rfl))))
  | true =>
    obtain ⟨h2, e2, H2, T2, l2⟩ := call_may H1
    have hc2 := T2.cells hN hc1
    rw [psh_length] at l2
    cases hd : downN D with
    | true =>
      rw [hd] at e2
      obtain ⟨h3, e3, H3, c3, l3, o3⟩ := H2.tstn (f := h.length) (n := 2) (vs := zfC) hN hc2 rfl rfl rfl
      refine ⟨h3, ?_, H3, fun c hc hl => (o3 c (by omega)).trans ((T2 c hc (by rw [psh_length]; omega)).trans (T1 c hc hl)), by omega⟩
      rw [S_fs_Disk_find_0_eq]
      exact bd e2 (bd rfl (cT rfl (bd e3 (bd (ldn_of (n := 2) (off := 0) c3 (Nat.le_refl _)) rfl))))
    | false =>
      rw [hd] at e2
      obtain ⟨H3, T3⟩ := H2.psh (.cells zfC)
      have hml := mlook_file (.agg zfC) name l
      have ml : mapAt .str h2 (.map mb) = some (fileE l) := H2.at
      rw [S_fs_Disk_find_0_eq]
      cases hg : fask l name with
      | none =>
        rw [hg] at hml
        have s1 : stn 2 (psh h2 (.cells zfC)) (.ptr h2.length 0) zfC = some (psh h2 (.cells zfC)) := stn_new rfl rfl rfl
        have hc3 := T3.cells hN hc2
        obtain ⟨h4, e4, H4, c4, l4, o4⟩ := H3.tstn (f := h.length) (n := 2) (vs := zfC) hN hc3 rfl rfl rfl
        rw [psh_length] at l4
        refine ⟨h4, ?_, H4, fun c hc hl => (o4 c (by omega)).trans ((T3 c hc (by omega)).trans ((T2 c hc (by rw [psh_length]; omega)).trans (T1 c hc hl))), by omega⟩
        refine bd e2 (bd rfl (cF rfl (bd rfl (bd rfl (bd (H2.ld (k := 3) rfl) (bd ml ?_))))))
        rw [hml]
        exact bd rfl (bd s1 (cT rfl (bd e4 (bd (ldn_of (n := 2) (off := 0) c4 (Nat.le_refl _)) rfl))))
      | some x =>
        rw [hg] at hml
        have s1 : stn 2 (psh h2 (.cells zfC)) (.ptr h2.length 0) (fileC x.1 x.2) = some (psh h2 (.cells (fileC x.1 x.2))) := stn_new rfl rfl rfl
        obtain ⟨H3, T3⟩ := H2.psh (.cells (fileC x.1 x.2))
        have hc3 := T3.cells hN hc2
        obtain ⟨h4, e4, H4, c4, l4, o4⟩ := H3.tstn (f := h.length) (n := 2) (vs := fileC x.1 x.2) hN hc3 rfl rfl rfl
        rw [psh_length] at l4
        refine ⟨h4, ?_, H4, fun c hc hl => (o4 c (by omega)).trans ((T3 c hc (by omega)).trans ((T2 c hc (by rw [psh_length]; omega)).trans (T1 c hc hl))), by omega⟩
        refine bd e2 (bd rfl (cF rfl (bd rfl (bd rfl (bd (H2.ld (k := 3) rfl) (bd ml ?_))))))
        rw [hml]
        exact bd rfl (bd s1 (cF rfl (bd (ldn_of (n := 2) (off := 0) (cellsAt_new h2 _) (Nat.le_refl _)) (bd e4 (bd (ldn_of (n := 2) (off := 0) c4 (Nat.le_refl _)) rfl)))))
end run
end Go.Proofs.Yteclkehnppeobaa.AL
/- The disk's calls, one by one. -/
namespace Go.Proofs.Yteclkehnppeobaa.AL
set_option linter.unusedVariables false
set_option linter.unusedSimpArgs false
set_option maxRecDepth 100000
open Go
open Go.Proofs.Try

section ops
variable {h0 h : AHeap} {d mb : Nat} {D : Dsk} {l : List File}
/-- Behind 'find' the file is laid into cells of its own. -/
theorem after_find (H : DH h0 h d mb (dskC mb D) (fileE l)) (name : ByteArray) (hn : name.size ≤ 9223372036854775807) (may : Bool) :
    ∃ g, S_fs_Disk_find (.ptr d 0) name may h = some (.tup [.agg (fileC (findR D l name may).1.1 (findR D l name may).1.2), .lit (.int .i64 (findR D l name may).2)], g) ∧
      stn 2 (psh g (.cells zfC)) (.ptr g.length 0) (fileC (findR D l name may).1.1 (findR D l name may).1.2) = some (psh g (.cells (fileC (findR D l name may).1.1 (findR D l name may).1.2))) ∧
      DH h0 (psh g (.cells (fileC (findR D l name may).1.1 (findR D l name may).1.2))) d mb (dskC mb (findD D name may)) (fileE l) ∧ Tmp h0 h (psh g (.cells (fileC (findR D l name may).1.1 (findR D l name may).1.2))) ∧ h.length ≤ g.length ∧ h0.length ≤ g.length := by
  obtain ⟨g, e, H1, T1, l1⟩ := find_run H name hn may
  obtain ⟨H2, T2⟩ := H1.psh (.cells (fileC (findR D l name may).1.1 (findR D l name may).1.2))
  exact ⟨g, e, stn_new rfl rfl rfl, H2, T1.trans T2 l1, l1, H1.keep.len⟩
def createE (D : Dsk) (l : List File) (name : ByteArray) : Int := if (findR D l name true).2 = 2 then (if l.length = 200 then 4 else 0) else if (findR D l name true).2 = 0 then 3 else (findR D l name true).2
def createL (D : Dsk) (l : List File) (name : ByteArray) : List File := if (findR D l name true).2 = 2 ∧ l.length ≠ 200 then flay l name (⟨#[]⟩, 0) else l
theorem create_run (H : DH h0 h d mb (dskC mb D) (fileE l)) (name : ByteArray) (hn : name.size ≤ 9223372036854775807) :
    ∃ h', S_fs_Disk_Create (.ptr d 0) name h = some (.lit (.int .i64 (createE D l name)), h') ∧ DH h0 h' d mb (dskC mb (findD D name true)) (fileE (createL D l name)) ∧ Tmp h0 h h' ∧ h.length ≤ h'.length := by
  obtain ⟨g, e, s1, H1, T1, l1, l0⟩ := after_find H name hn true
  unfold createE createL
  rw [S_fs_Disk_Create_eq]
  generalize hR : findR D l name true = R at e s1 H1 T1 ⊢
  by_cases h2 : R.2 = 2
  · by_cases h3 : l.length = 200
    · refine ⟨psh g (.cells (fileC R.1.1 R.1.2)), ?_, ?_, T1, by rw [psh_length]; omega⟩
      · rw [if_pos h2, if_pos h3]
        refine bd e (bd rfl (bd rfl (bd rfl (bd rfl (bd s1 (cF (by simp [h2]) (bd rfl (bd rfl (bd (H1.ld (k := 3) rfl) (bd H1.len (bd rfl (cT ?_ rfl))))))))))))
        have : (fileE l).length = 200 := by simp [fileE, h3]
        simp [this]
      · rw [if_neg (by simp [h3])]; exact H1
    · obtain ⟨h4, e4, H4, T4, l4⟩ := H1.stm (mput (.string name) (.agg zfC))
      rw [psh_length] at l4
      refine ⟨h4, ?_, ?_, T1.trans T4 (by rw [psh_length]; omega), by omega⟩
      · rw [if_pos h2, if_neg h3]
        refine bd e (bd rfl (bd rfl (bd rfl (bd rfl (bd s1 (cF (by simp [h2]) (bd rfl (bd rfl (bd (H1.ld (k := 3) rfl) (bd H1.len (bd rfl (cF ?_ (bd rfl (bd rfl (bd (H1.ld (k := 3) rfl) (bd e4 rfl))))))))))))))))
        have : (fileE l).length ≠ 200 := by simpa [fileE] using h3
        simp; omega
      · rw [if_pos ⟨h2, h3⟩, ← mput_file]; exact H4
  · refine ⟨psh g (.cells (fileC R.1.1 R.1.2)), ?_, ?_, T1, by rw [psh_length]; omega⟩
    · rw [if_neg h2]
      refine bd e (bd rfl (bd rfl (bd rfl (bd rfl (bd s1 (cT (by simp [h2]) ?_))))))
      show cond (decide (R.2 = 0)) _ _ = _
      by_cases h3 : R.2 = 0
      · rw [if_pos h3]; exact cT (decide_eq_true h3) rfl
      · rw [if_neg h3]; exact cF (decide_eq_false h3) rfl
    · rw [if_neg (fun h => h2 h.1)]; exact H1
def fullB (D : Dsk) (s : ByteArray) : Bool := decide ((s.size : Int) > IntKind.wrap .i64 (D.room - D.used))
def appE (D : Dsk) (l : List File) (name s : ByteArray) : Int := if (findR D l name true).2 ≠ 0 then (findR D l name true).2 else if fullB D s then 4 else 0
def appD (D : Dsk) (l : List File) (name s : ByteArray) : Dsk := if appE D l name s = 0 then { findD D name true with used := IntKind.wrap .i64 (D.used + (s.size : Int)) } else findD D name true
def appL (D : Dsk) (l : List File) (name s : ByteArray) : List File := if appE D l name s = 0 then flay l name ((findR D l name true).1.1 ++ s, (findR D l name true).1.2) else l
theorem findD_room (D : Dsk) (name : ByteArray) (may : Bool) : (findD D name may).room = D.room := by unfold findD; split <;> rfl
theorem findD_used (D : Dsk) (name : ByteArray) (may : Bool) : (findD D name may).used = D.used := by unfold findD; split <;> rfl
theorem append_run (H : DH h0 h d mb (dskC mb D) (fileE l)) (name s : ByteArray) (hn : name.size ≤ 9223372036854775807) (hs : appE D l name s = 0 → (findR D l name true).1.1.size + s.size ≤ 9223372036854775807) :
    ∃ h', S_fs_Disk_Append (.ptr d 0) name s h = some (.lit (.int .i64 (appE D l name s)), h') ∧ DH h0 h' d mb (dskC mb (appD D l name s)) (fileE (appL D l name s)) ∧ Tmp h0 h h' ∧ h.length ≤ h'.length := by
  obtain ⟨g, e, s1, H1, T1, l1, l0⟩ := after_find H name hn true
  unfold appD appL
  rw [S_fs_Disk_Append_eq]
  have hE : appE D l name s = if (findR D l name true).2 ≠ 0 then (findR D l name true).2 else if fullB D s then 4 else 0 := rfl
  have hr : (dskC mb (findD D name true))[1]? = some (.lit (.int .i64 D.room)) := by rw [← findD_room D name true]; rfl
  have hu : (dskC mb (findD D name true))[2]? = some (.lit (.int .i64 D.used)) := by rw [← findD_used D name true]; rfl
  generalize hR : findR D l name true = R at e s1 H1 T1 hE hs ⊢
  by_cases h2 : R.2 = 0
  · rw [if_neg (by simp [h2])] at hE
    cases hf : fullB D s with
    | true =>
      rw [hf, if_pos rfl] at hE
      rw [hE]
      refine ⟨psh g (.cells (fileC R.1.1 R.1.2)), ?_, by rw [if_neg (by omega), if_neg (by omega)]; exact H1, T1, by rw [psh_length]; omega⟩
      exact bd e (bd rfl (bd rfl (bd rfl (bd rfl (bd s1 (cF (by simp [h2]) (bd rfl (bd rfl (bd (H1.ld hr) (bd rfl (bd rfl (bd rfl (bd (H1.ld hu) (bd rfl (cT hf rfl)))))))))))))))
    | false =>
      rw [hf, if_neg (by simp)] at hE
      rw [hE, if_pos rfl, if_pos rfl]
      have c1 : cellsAt (psh g (.cells (fileC R.1.1 R.1.2))) g.length = some (fileC R.1.1 R.1.2) := cellsAt_new _ _
      obtain ⟨h2', e2, H2, c2, l2, o2⟩ := H1.tst (k := 0) (v := .lit (.string (R.1.1 ++ s))) l0 c1 (Nat.zero_lt_succ _) rfl
      obtain ⟨h3, e3, H3, T3, l3⟩ := H2.stm (mput (.string name) (.agg (fileC (R.1.1 ++ s) R.1.2)))
      obtain ⟨h4, e4, H4, T4, l4⟩ := H3.std (k := 2) (v := .lit (.int .i64 (IntKind.wrap .i64 (D.used + (s.size : Int))))) (by rw [dskC_len]; omega) rfl
      rw [psh_length] at l2
      refine ⟨h4, ?_, ?_, fun c hc hl => (T4 c hc (by omega)).trans ((T3 c hc (by omega)).trans ((o2 c (by omega)).trans (T1 c hc hl))), by omega⟩
      · exact bd e (bd rfl (bd rfl (bd rfl (bd rfl (bd s1 (cF (by simp [h2]) (bd rfl (bd rfl (bd (H1.ld hr) (bd rfl (bd rfl (bd rfl (bd (H1.ld hu) (bd rfl (cF hf
          (bd (ld1_of c1) (bd rfl (bd (req_true (hs hE)) (bd e2 (bd rfl (bd rfl (bd (H2.ld (k := 3) rfl) (bd (ldn_of (n := 2) (off := 0) c2 (Nat.le_refl _)) (bd e3 (bd rfl (bd rfl (bd (H3.ld hu) (bd rfl (bd rfl (bd rfl (bd e4 rfl)))))))))))))))))))))))))))))))
      · rw [← mput_file]; exact H4
  · rw [if_pos h2] at hE
    rw [hE]
    refine ⟨psh g (.cells (fileC R.1.1 R.1.2)), ?_, by rw [if_neg h2, if_neg h2]; exact H1, T1, by rw [psh_length]; omega⟩
    exact bd e (bd rfl (bd rfl (bd rfl (bd rfl (bd s1 (cT (by simp [h2]) rfl))))))
theorem size_run (H : DH h0 h d mb (dskC mb D) (fileE l)) (name : ByteArray) (hn : name.size ≤ 9223372036854775807) :
    ∃ h', S_fs_Disk_Size (.ptr d 0) name h = some (.tup [.lit (.int .i64 ((findR D l name true).1.1.size : Int)), .lit (.int .i64 (findR D l name true).2)], h') ∧ DH h0 h' d mb (dskC mb (findD D name true)) (fileE l) ∧ Tmp h0 h h' ∧ h.length ≤ h'.length := by
  obtain ⟨g, e, s1, H1, T1, l1, l0⟩ := after_find H name hn true
  refine ⟨_, ?_, H1, T1, by rw [psh_length]; omega⟩
  rw [S_fs_Disk_Size_eq]
  exact bd e (bd rfl (bd rfl (bd rfl (bd rfl (bd s1 (bd (ld1_of (cellsAt_new _ _)) (bd rfl rfl)))))))
def readR (D : Dsk) (l : List File) (name : ByteArray) (i n : Int) : ByteArray × Int :=
  let R := findR D l name (decide (minI i n ≥ 0))
  if R.2 ≠ 0 then (⟨#[]⟩, R.2) else if i > (R.1.1.size : Int) ∨ n > (R.1.1.size : Int) - i then (⟨#[]⟩, 10) else (R.1.1.extract i.toNat (i + n).toNat, 0)
theorem minI_nonneg {a b : Int} (h : minI a b ≥ 0) : 0 ≤ a ∧ 0 ≤ b := by unfold minI at h; split at h <;> omega
theorem read_run (H : DH h0 h d mb (dskC mb D) (fileE l)) (name : ByteArray) (i n : Int) (hn : name.size ≤ 9223372036854775807) (hs : (findR D l name (decide (minI i n ≥ 0))).1.1.size ≤ 9223372036854775807) :
    ∃ h', S_fs_Disk_Read (.ptr d 0) name i n h = some (.tup [.lit (.string (readR D l name i n).1), .lit (.int .i64 (readR D l name i n).2)], h') ∧ DH h0 h' d mb (dskC mb (findD D name (decide (minI i n ≥ 0)))) (fileE l) ∧ Tmp h0 h h' ∧ h.length ≤ h'.length := by
  obtain ⟨g, e, s1, H1, T1, l1, l0⟩ := after_find H name hn (decide (minI i n ≥ 0))
  have hrr : readR D l name i n = let R := findR D l name (decide (minI i n ≥ 0)); if R.2 ≠ 0 then (⟨#[]⟩, R.2) else if i > (R.1.1.size : Int) ∨ n > (R.1.1.size : Int) - i then (⟨#[]⟩, 10) else (R.1.1.extract i.toNat (i + n).toNat, 0) := rfl
  have hmay : (findR D l name (decide (minI i n ≥ 0))).2 = 0 → 0 ≤ i ∧ 0 ≤ n := fun h => by
    by_cases hm : minI i n ≥ 0
    · exact minI_nonneg hm
    · unfold findR at h; rw [decide_eq_false hm] at h; simp at h
  rw [S_fs_Disk_Read_eq]
  generalize hR : findR D l name (decide (minI i n ≥ 0)) = R at e s1 H1 T1 hrr hs hmay ⊢
  simp only at hrr
  have c1 : cellsAt (psh g (.cells (fileC R.1.1 R.1.2))) g.length = some (fileC R.1.1 R.1.2) := cellsAt_new _ _
  refine ⟨psh g (.cells (fileC R.1.1 R.1.2)), ?_, H1, T1, by rw [psh_length]; omega⟩
  by_cases h2 : R.2 = 0
  · obtain ⟨p1, p2⟩ := hmay h2
    rw [if_neg (by simp [h2])] at hrr
    refine bd e (bd rfl (bd rfl (bd rfl (bd rfl (bd s1 (cF (by simp [h2]) (bd (ld1_of c1) (bd rfl ?_))))))))
    by_cases h3 : i > (R.1.1.size : Int)
    · rw [if_pos (.inl h3)] at hrr
      rw [hrr]
      refine cT (decide_eq_true h3) ?_
      rw [S_fs_Disk_Read_0_eq]; rfl
    · refine cF (decide_eq_false h3) (bd (ld1_of c1) (bd rfl ?_))
      have hw : IntKind.wrap .i64 ((R.1.1.size : Int) - i) = (R.1.1.size : Int) - i := wrap_i64 (by omega) (by omega)
      show S_fs_Disk_Read_0 i n g.length (decide (n > IntKind.wrap .i64 ((R.1.1.size : Int) - i))) _ = _
      rw [hw, S_fs_Disk_Read_0_eq]
      by_cases h4 : n > (R.1.1.size : Int) - i
      · rw [if_pos (.inr h4)] at hrr
        rw [hrr]
        exact cT (decide_eq_true h4) rfl
      · rw [if_neg (by omega)] at hrr
        rw [hrr]
        refine cF (decide_eq_false h4) (bd (ld1_of c1) (bd rfl ?_))
        show (cutS R.1.1 i (IntKind.wrap .i64 (i + n))).bind _ = _
        rw [wrap_i64 (by omega) (by omega)]
        unfold cutS
        rw [req_true (by omega)]
        rfl
  · rw [if_pos h2] at hrr
    rw [hrr]
    exact bd e (bd rfl (bd rfl (bd rfl (bd rfl (bd s1 (cT (by simp [h2]) rfl))))))
def syncL (D : Dsk) (l : List File) (name : ByteArray) : List File := if (findR D l name true).2 = 0 then flay l name ((findR D l name true).1.1, ((findR D l name true).1.1.size : Int)) else l
theorem sync_run (H : DH h0 h d mb (dskC mb D) (fileE l)) (name : ByteArray) (hn : name.size ≤ 9223372036854775807) :
    ∃ h', S_fs_Disk_Sync (.ptr d 0) name h = some (.lit (.int .i64 (findR D l name true).2), h') ∧ DH h0 h' d mb (dskC mb (findD D name true)) (fileE (syncL D l name)) ∧ Tmp h0 h h' ∧ h.length ≤ h'.length := by
  obtain ⟨g, e, s1, H1, T1, l1, l0⟩ := after_find H name hn true
  unfold syncL
  rw [S_fs_Disk_Sync_eq]
  generalize hR : findR D l name true = R at e s1 H1 T1 ⊢
  by_cases h2 : R.2 = 0
  · have c1 : cellsAt (psh g (.cells (fileC R.1.1 R.1.2))) g.length = some (fileC R.1.1 R.1.2) := cellsAt_new _ _
    obtain ⟨h2', e2, H2, c2, l2, o2⟩ := H1.tst (k := 1) (v := .lit (.int .i64 (R.1.1.size : Int))) l0 c1 (Nat.le_refl _) rfl
    obtain ⟨h3, e3, H3, T3, l3⟩ := H2.stm (mput (.string name) (.agg (fileC R.1.1 (R.1.1.size : Int))))
    rw [psh_length] at l2
    refine ⟨h3, ?_, ?_, fun c hc hl => (T3 c hc (by omega)).trans ((o2 c (by omega)).trans (T1 c hc hl)), by omega⟩
    · refine bd e (bd rfl (bd rfl (bd rfl (bd rfl (bd s1 (cT (by simp [h2]) (bd (ld1_of c1) (bd rfl (bd e2 (bd rfl (bd rfl (bd (H2.ld (k := 3) rfl) (bd (ldn_of (n := 2) (off := 0) c2 (Nat.le_refl _)) (bd e3 ?_))))))))))))))
      rw [S_fs_Disk_Sync_0_eq]
    · rw [if_pos h2, ← mput_file]; exact H3
  · refine ⟨psh g (.cells (fileC R.1.1 R.1.2)), ?_, by rw [if_neg h2]; exact H1, T1, by rw [psh_length]; omega⟩
    refine bd e (bd rfl (bd rfl (bd rfl (bd rfl (bd s1 (cF (by simp [h2]) ?_))))))
    rw [S_fs_Disk_Sync_0_eq]
def dropSz (l : List File) (name : ByteArray) : Int := match fask l name with
  | some x => (x.1.size : Int)
  | none => 0
def dropD (D : Dsk) (l : List File) (name : ByteArray) : Dsk := { D with used := IntKind.wrap .i64 (D.used - dropSz l name) }
theorem drop_run (H : DH h0 h d mb (dskC mb D) (fileE l)) (name : ByteArray) :
    ∃ h', S_fs_Disk_drop (.ptr d 0) name h = some (.tup [], h') ∧ DH h0 h' d mb (dskC mb (dropD D l name)) (fileE (fdrop l name)) ∧ Tmp h0 h h' ∧ h'.length = h.length := by
  obtain ⟨h1, e1, H1, T1, l1⟩ := H.std (k := 2) (v := .lit (.int .i64 (IntKind.wrap .i64 (D.used - dropSz l name)))) (by rw [dskC_len]; omega) rfl
  obtain ⟨h2, e2, H2, T2, l2⟩ := H1.del (.string name)
  refine ⟨h2, ?_, by rw [← mdel_file]; exact H2, T1.trans T2 (by omega), by omega⟩
  rw [S_fs_Disk_drop_eq]
  have hml := mlook_file (.agg zfC) name l
  refine bd rfl (bd rfl (bd (H.ld (k := 2) rfl) (bd rfl (bd rfl (bd rfl (bd (H.ld (k := 3) rfl) (bd H.at ?_)))))))
  have hds : dropSz l name = match fask l name with
    | some x => (x.1.size : Int)
    | none => 0 := rfl
  cases hg : fask l name with
  | none =>
    rw [hg] at hml hds
    rw [hml]
    rw [hds] at e1
    exact bd rfl (bd rfl (bd rfl (bd rfl (bd rfl (bd e1 (bd rfl (bd rfl (bd (H1.ld (k := 3) rfl) (bd e2 rfl)))))))))
  | some x =>
    rw [hg] at hml hds
    rw [hml]
    rw [hds] at e1
    exact bd rfl (bd rfl (bd rfl (bd rfl (bd rfl (bd e1 (bd rfl (bd rfl (bd (H1.ld (k := 3) rfl) (bd e2 rfl)))))))))
theorem remove_run (H : DH h0 h d mb (dskC mb D) (fileE l)) (name : ByteArray) (hn : name.size ≤ 9223372036854775807) :
    ∃ h', S_fs_Disk_Remove (.ptr d 0) name h = some (.lit (.int .i64 (findR D l name true).2), h') ∧
      DH h0 h' d mb (dskC mb (if (findR D l name true).2 = 0 then dropD (findD D name true) l name else findD D name true)) (fileE (if (findR D l name true).2 = 0 then fdrop l name else l)) ∧ Tmp h0 h h' ∧ h.length ≤ h'.length := by
  obtain ⟨g, e, s1, H1, T1, l1, l0⟩ := after_find H name hn true
  rw [S_fs_Disk_Remove_eq]
  generalize hR : findR D l name true = R at e s1 H1 T1 ⊢
  by_cases h2 : R.2 = 0
  · obtain ⟨h3, e3, H3, T3, l3⟩ := drop_run H1 name
    rw [psh_length] at l3
    refine ⟨h3, ?_, by rw [if_pos h2, if_pos h2]; exact H3, T1.trans T3 (by rw [psh_length]; omega), by omega⟩
    refine bd e (bd rfl (bd rfl (bd rfl (bd rfl (bd s1 (cT (by simp [h2]) (bd e3 ?_)))))))
    rw [S_fs_Disk_Remove_0_eq]
  · refine ⟨psh g (.cells (fileC R.1.1 R.1.2)), ?_, by rw [if_neg h2, if_neg h2]; exact H1, T1, by rw [psh_length]; omega⟩
    refine bd e (bd rfl (bd rfl (bd rfl (bd rfl (bd s1 (cF (by simp [h2]) ?_))))))
    rw [S_fs_Disk_Remove_0_eq]
theorem arm_run (H : DH h0 h d mb (dskC mb D) (fileE l)) (n : Int) :
    ∃ h', S_fs_Disk_Arm (.ptr d 0) n h = some (.tup [], h') ∧ DH h0 h' d mb (dskC mb { D with fuse := maxI (-1) n }) (fileE l) ∧ Tmp h0 h h' ∧ h'.length = h.length := by
  obtain ⟨h1, e1, H1, T1, l1⟩ := H.std (k := 4) (v := .lit (.int .i64 (maxI (-1) n))) (by rw [dskC_len]; omega) rfl
  refine ⟨h1, ?_, H1, T1, l1⟩
  rw [S_fs_Disk_Arm_eq]
  exact bd (given_run H) (bd rfl (cT rfl (bd rfl (bd rfl (bd e1 rfl)))))
end ops
end Go.Proofs.Yteclkehnppeobaa.AL
/- The disk: names, rising again, copies, new ones. -/
namespace Go.Proofs.Yteclkehnppeobaa.AL
set_option linter.unusedVariables false
set_option linter.unusedSimpArgs false
set_option maxRecDepth 100000
open Go
open Go.Proofs.Try

section ops
variable {h0 h : AHeap} {d mb : Nat} {D : Dsk} {l : List File}
def namesOf (l : List File) : List ByteArray := sortB (l.map (·.1))
theorem keyL_file : ∀ l : List File, keyL (fileE l) = some (l.map fun f => (f.1, .agg (fileC f.2.1 f.2.2)))
  | [] => rfl
  | f :: l => by
    have := keyL_file l
    simp only [fileE, List.map_cons, keyL] at this ⊢
    rw [this]; rfl
theorem names_run (H : DH h0 h d mb (dskC mb D) (fileE l)) (hl : l.length ≤ 1000) :
    ∃ h' v, S_fs_Disk_names (.ptr d 0) h = some (v, h') ∧ Own 1 h' v (namesOf l).length (strVs (namesOf l)) ∧ (∀ b, At v b → h.length ≤ b) ∧ DH h0 h' d mb (dskC mb D) (fileE l) ∧ Tmp h0 h h' ∧ h.length ≤ h'.length := by
  obtain ⟨H1, T1⟩ := H.psh (.cells [.map mb])
  have hk : keysV (psh h (.cells [.map mb])) (keysF h.length) = some (l.map (·.1)) := by
    unfold keysV keysF
    simp only [cellsAt_new, H1.ms]
    rw [keyL_file, Option.bind_some, req_true (by simp; omega)]
    simp
  have e : S_fs_Disk_names (.ptr d 0) h = some (sortedV (psh h (.cells [.map mb])) (namesOf l), sortedH (psh h (.cells [.map mb])) (namesOf l)) := by
    rw [S_fs_Disk_names_eq]
    exact bd rfl (bd rfl (bd (H.ld (k := 3) rfl) (bd rfl (bd hk rfl))))
  unfold sortedV sortedH at e
  by_cases hn : namesOf l = []
  · rw [if_pos hn, if_pos hn] at e
    refine ⟨_, _, e, ?_, ?_, H1, T1, by rw [psh_length]; omega⟩
    · rw [hn]; exact Own.nil 1 _
    · rintro b ⟨k, off, len, hb⟩; cases hb
  · rw [if_neg hn, if_neg hn] at e
    obtain ⟨H2, T2⟩ := H1.psh (.cells ((namesOf l).map strV))
    refine ⟨_, _, e, ⟨by simp [strVs], .inr ⟨_, rfl, cellsAt_new _ _⟩⟩, ?_, H2, T1.trans T2 (by rw [psh_length]; omega), by simp [psh]⟩
    rintro b ⟨k, off, len, hb⟩
    cases hb
    rw [psh_length]; omega
/-! ### Rising -/
def fileOf (l : List File) (name : ByteArray) : ByteArray × Int := (fask l name).getD (⟨#[]⟩, 0)
def riseN (k : Option Int) (x : ByteArray × Int) : Int := match k with
  | some v => maxI 0 (minI v ((x.1.size : Int) - x.2))
  | none => 0
def riseF (k : Option Int) (x : ByteArray × Int) : ByteArray × Int := (x.1.extract 0 (x.2 + riseN k x).toNat, x.2 + riseN k x)
def FileOk (x : ByteArray × Int) : Prop := 0 ≤ x.2 ∧ x.2 ≤ (x.1.size : Int) ∧ (x.1.size : Int) ≤ 4611686018427387904
theorem riseN_ok {k : Option Int} {x : ByteArray × Int} (hx : FileOk x) : 0 ≤ riseN k x ∧ riseN k x ≤ (x.1.size : Int) - x.2 := by
  obtain ⟨a, b, c⟩ := hx
  unfold riseN
  split
  · unfold maxI minI; constructor <;> (split <;> split <;> omega)
  · omega
theorem size_take {s : ByteArray} {n : Nat} (h : n ≤ s.size) : (s.extract 0 n).size = n := by rw [ByteArray.size_extract]; omega
theorem riseF_ok {k : Option Int} {x : ByteArray × Int} (hx : FileOk x) : FileOk (riseF k x) ∧ ((riseF k x).1.size : Int) = x.2 + riseN k x := by
  obtain ⟨a1, a2⟩ := riseN_ok (k := k) hx
  obtain ⟨a, b, c⟩ := hx
  have e : ((riseF k x).1.size : Int) = x.2 + riseN k x := by
    show ((x.1.extract 0 (x.2 + riseN k x).toNat).size : Int) = _
    rw [size_take (by omega)]; omega
  refine ⟨⟨?_, ?_, ?_⟩, e⟩
  · show 0 ≤ x.2 + riseN k x; omega
  · rw [e]; exact Int.le_refl _
  · rw [e]; omega
/-- One file after another. -/
def riseS (ki : List Int) : Nat → List ByteArray → List File × Int → List File × Int
  | _, [], r => r
  | i, n :: ns, r => riseS ki (i + 1) ns (flay r.1 n (riseF (ki[i]?) (fileOf r.1 n)), IntKind.wrap .i64 (r.2 - ((fileOf r.1 n).1.size - (riseF (ki[i]?) (fileOf r.1 n)).2)))
theorem fileOf_ok {l : List File} (hl : ∀ f ∈ l, FileOk f.2) (n : ByteArray) : FileOk (fileOf l n) := by
  unfold fileOf
  induction l with
  | nil => exact ⟨by simp [fask], by simp [fask], by show (0 : Int) ≤ _; omega⟩
  | cons f l ih =>
    unfold fask
    split
    · exact hl f (by simp)
    · exact ih fun f hf => hl f (by simp [hf])
theorem flay_all {p : File → Prop} : ∀ {l : List File} {n : ByteArray} {x : ByteArray × Int}, (∀ f ∈ l, p f) → p (n, x) → ∀ f ∈ flay l n x, p f
  | [], n, x, _, hx, f, hf => by simp [flay] at hf; subst hf; exact hx
  | g :: l, n, x, hl, hx, f, hf => by
    unfold flay at hf
    split at hf
    · rcases List.mem_cons.1 hf with rfl | hf
      · exact hx
      · exact hl f (by simp [hf])
    · rcases List.mem_cons.1 hf with rfl | hf
      · exact hl _ (by simp)
      · exact flay_all (fun f hf => hl f (by simp [hf])) hx f hf
theorem sless_int (n : Int) : (AVal.lit (.int .i64 n)).one = true := rfl
/-- The state of a disk, its used bytes apart. -/
theorem rise_loop {v keep : AVal} {ks : List ByteArray} {ki : List Int} (hk : ks.length ≤ 1000) (hS : ∀ g, Keep h0.length [d, mb] h0 g → Sl 1 g keep ki.length (intVs ki)) :
    ∀ (m i : Nat) (g : AHeap) (l : List File) (D : Dsk), ks.length - i = m → i ≤ ks.length → DH h0 g d mb (dskC mb D) (fileE l) → (∀ f ∈ l, FileOk f.2) → Own 1 g v ks.length (strVs ks) → (∀ b, At v b → h0.length ≤ b) →
      ∃ g', S_fs_Disk_Rise_0 (.ptr d 0) keep v (ks.length : Nat) (i : Nat) g = S_fs_Disk_Rise_2 (.ptr d 0) g' ∧ DH h0 g' d mb (dskC mb { D with used := (riseS ki i (ks.drop i) (l, D.used)).2 }) (fileE (riseS ki i (ks.drop i) (l, D.used)).1) ∧ Tmp h0 g g' ∧ g.length ≤ g'.length := by
  intro m
  induction m with
  | zero =>
    intro i g l D hm hi H hl O hv
    have hd : ks.drop i = [] := List.drop_of_length_le (by omega)
    refine ⟨g, ?_, by rw [hd]; exact H, Tmp.refl, Nat.le_refl _⟩
    rw [S_fs_Disk_Rise_0_eq]
    exact cF (by simp; omega) rfl
  | succ m ih =>
    intro i g l D hm hi H hl O hv
    have hlt : i < ks.length := by omega
    have hd : ks.drop i = ks[i] :: ks.drop (i + 1) := List.drop_eq_getElem_cons hlt
    -- the name
    obtain ⟨p, p1, _, _, p2⟩ := O.sl.idx hlt
    have p2 := p2 (by omega)
    rw [Nat.mul_one] at p2
    have p2 : ld1 g p = some (.lit (.string ks[i])) := by rw [p2]; simp [strVs, hlt]
    -- the file
    have hml := mlook_file (.agg zfC) ks[i] l
    have hfo : FileOk (fileOf l ks[i]) := fileOf_ok hl _
    have hml1 : (mlook (.agg zfC) (.string ks[i]) (fileE l)).1 = .agg (fileC (fileOf l ks[i]).1 (fileOf l ks[i]).2) := by
      rw [hml]; unfold fileOf; cases fask l ks[i] <;> rfl
    generalize hx : fileOf l ks[i] = x at hfo hml1
    have s1 : stn 2 (psh g (.cells zfC)) (.ptr g.length 0) (fileC x.1 x.2) = some (psh g (.cells (fileC x.1 x.2))) := stn_new rfl rfl rfl
    obtain ⟨H1, T1⟩ := H.psh (.cells (fileC x.1 x.2))
    have c1 : cellsAt (psh g (.cells (fileC x.1 x.2))) g.length = some (fileC x.1 x.2) := cellsAt_new _ _
    have hgl := H.keep.len
    obtain ⟨n1, n2⟩ := riseN_ok (k := ki[i]?) hfo
    obtain ⟨r1, r2⟩ := riseF_ok (k := ki[i]?) hfo
    obtain ⟨b1, b2, b3⟩ := hfo
    -- behind the number
    have behind : ∃ g', S_fs_Disk_Rise_1 (.ptr d 0) keep ks[i] g.length (riseN (ki[i]?) x) v (ks.length : Nat) (i : Nat) (psh g (.cells (fileC x.1 x.2))) = S_fs_Disk_Rise_2 (.ptr d 0) g' ∧ DH h0 g' d mb (dskC mb { D with used := (riseS ki i (ks.drop i) (l, D.used)).2 }) (fileE (riseS ki i (ks.drop i) (l, D.used)).1) ∧ Tmp h0 g g' ∧ g.length ≤ g'.length := by
      have w1 : IntKind.wrap .i64 (x.2 + riseN (ki[i]?) x) = x.2 + riseN (ki[i]?) x := wrap_i64 (by omega) (by omega)
      obtain ⟨h2, e2, H2, c2, l2, o2⟩ := H1.tst (k := 1) (v := .lit (.int .i64 (x.2 + riseN (ki[i]?) x))) hgl c1 (Nat.le_refl _) rfl
      have w2 : IntKind.wrap .i64 ((x.1.size : Int) - (x.2 + riseN (ki[i]?) x)) = (x.1.size : Int) - (x.2 + riseN (ki[i]?) x) := wrap_i64 (by omega) (by omega)
      obtain ⟨h3, e3, H3, T3, l3⟩ := H2.std (k := 2) (v := .lit (.int .i64 (IntKind.wrap .i64 (D.used - ((x.1.size : Int) - (x.2 + riseN (ki[i]?) x)))))) (by rw [dskC_len]; omega) rfl
      have c3 := T3.cells hgl c2
      obtain ⟨h4, e4, H4, c4, l4, o4⟩ := H3.tst (k := 0) (v := .lit (.string (riseF (ki[i]?) x).1)) hgl c3 (Nat.zero_lt_succ _) rfl
      obtain ⟨h5, e5, H5, T5, l5⟩ := H4.stm (mput (.string ks[i]) (.agg (fileC (riseF (ki[i]?) x).1 (riseF (ki[i]?) x).2)))
      rw [psh_length] at l2
      have hT : Tmp h0 g h5 := fun c hc hl' => (T5 c hc (by omega)).trans ((o4 c (by omega)).trans ((T3 c hc (by omega)).trans ((o2 c (by omega)).trans (T1 c hc hl'))))
      rw [mput_file] at H5
      have O5 : Own 1 h5 v ks.length (strVs ks) := O.keep fun b hb => hT b (hv b hb) (At.own O hb)
      obtain ⟨g', q1, q2, q3, q4⟩ := ih (i + 1) h5 (flay l ks[i] (riseF (ki[i]?) x)) { D with used := IntKind.wrap .i64 (D.used - ((x.1.size : Int) - (x.2 + riseN (ki[i]?) x))) } (by omega) (by omega) H5 (flay_all hl r1) O5 hv
      refine ⟨g', ?_, ?_, hT.trans q3 (by omega), by omega⟩
      · rw [← q1, S_fs_Disk_Rise_1_eq]
        refine bd (ld1_of c1) (bd rfl ?_)
        show (st1 _ _ (.lit (.int .i64 (IntKind.wrap .i64 (x.2 + riseN (ki[i]?) x))))).bind _ = _
        rw [w1]
        refine bd e2 (bd rfl (bd rfl (bd (H2.ld (k := 2) rfl) (bd rfl (bd (ld1_of c2) (bd rfl (bd (ld1_of c2) (bd rfl (bd rfl (bd rfl ?_))))))))))
        show (st1 _ _ (.lit (.int .i64 (IntKind.wrap .i64 (D.used - IntKind.wrap .i64 ((x.1.size : Int) - (x.2 + riseN (ki[i]?) x))))))).bind _ = _
        rw [w2]
        have hcut : cutS x.1 0 (x.2 + riseN (ki[i]?) x) = some (riseF (ki[i]?) x).1 := by
          unfold cutS; rw [req_true (by omega)]; rfl
        refine bd e3 (bd (ld1_of c3) (bd rfl (bd (ld1_of c3) (bd rfl (bd hcut (bd e4 (bd rfl (bd rfl (bd (H4.ld (k := 3) rfl) (bd (ldn_of (n := 2) (off := 0) c4 (Nat.le_refl _)) (bd e5 ?_)))))))))))
        rw [show IntKind.wrap .i64 ((i : Int) + 1) = ((i + 1 : Nat) : Int) from wrap_up (by omega)]
      · have e : riseS ki i (ks.drop i) (l, D.used) = riseS ki (i + 1) (ks.drop (i + 1)) (flay l ks[i] (riseF (ki[i]?) x), IntKind.wrap .i64 (D.used - ((x.1.size : Int) - (x.2 + riseN (ki[i]?) x)))) := by
          rw [hd, ← hx]; rfl
        rw [e]; exact q2
    obtain ⟨g', q1, q2, q3, q4⟩ := behind
    refine ⟨g', ?_, q2, q3, q4⟩
    rw [← q1, S_fs_Disk_Rise_0_eq]
    have S := hS _ H1.keep
    refine cT (by simp; omega) (bd p1 (bd p2 (bd rfl (bd rfl (bd rfl (bd (H.ld (k := 3) rfl) (bd H.at ?_)))))))
    rw [hml1]
    refine bd rfl (bd s1 (bd S.len ?_))
    by_cases hik : i < ki.length
    · obtain ⟨p', p1', _, _, p2'⟩ := S.idx hik
      have p2' := p2' (by omega)
      rw [Nat.mul_one] at p2'
      have p2' : ld1 (psh g (.cells (fileC x.1 x.2))) p' = some (.lit (.int .i64 ki[i])) := by rw [p2']; simp [intVs, hik]
      have e : ki[i]? = some ki[i] := List.getElem?_eq_getElem hik
      refine cT (by simp; omega) (bd p1' (bd p2' (bd rfl (bd (ld1_of c1) (bd rfl (bd (ld1_of c1) (bd rfl ?_)))))))
      show S_fs_Disk_Rise_1 _ _ _ _ (maxI 0 (minI ki[i] (IntKind.wrap .i64 ((x.1.size : Int) - x.2)))) _ _ _ _ = _
      rw [show IntKind.wrap .i64 ((x.1.size : Int) - x.2) = (x.1.size : Int) - x.2 from wrap_i64 (by omega) (by omega), e]
      rfl
    · have e : ki[i]? = none := List.getElem?_eq_none (by omega)
      refine cF (by simp; omega) ?_
      rw [e]; rfl
theorem rise_run (H : DH h0 h d mb (dskC mb D) (fileE l)) {keep : AVal} {ki : List Int} (hl : l.length ≤ 1000) (hf : ∀ f ∈ l, FileOk f.2) (hS : ∀ g, Keep h0.length [d, mb] h0 g → Sl 1 g keep ki.length (intVs ki)) :
    ∃ h', S_fs_Disk_Rise (.ptr d 0) keep h = some (.tup [], h') ∧ DH h0 h' d mb (dskC mb { D with used := (riseS ki 0 (namesOf l) (l, D.used)).2, fuse := -1, down := false }) (fileE (riseS ki 0 (namesOf l) (l, D.used)).1) ∧ Tmp h0 h h' ∧ h.length ≤ h'.length := by
  obtain ⟨h1, v, e1, O, f1, H1, T1, l1⟩ := names_run H hl
  have hn : (namesOf l).length ≤ 1000 := by unfold namesOf; rw [sortB_length]; simpa using hl
  obtain ⟨h2, e2, H2, T2, l2⟩ := rise_loop hn hS _ 0 h1 l D rfl (Nat.zero_le _) H1 hf O (fun b hb => Nat.le_trans H.keep.len (f1 b hb))
  obtain ⟨h3, e3, H3, T3, l3⟩ := H2.std (k := 4) (v := .lit (.int .i64 (-1))) (by rw [dskC_len]; omega) rfl
  obtain ⟨h4, e4, H4, T4, l4⟩ := H3.std (k := 5) (v := .lit (.bool false)) (by rw [List.length_set, dskC_len]; omega) rfl
  refine ⟨h4, ?_, H4, ((T1.trans T2 l1).trans T3 (by omega)).trans T4 (by omega), by omega⟩
  rw [S_fs_Disk_Rise_eq]
  refine bd (given_run H) (bd rfl (cF rfl (bd e1 (bd O.sl.len ?_))))
  refine (show _ = _ from e2).trans ?_
  rw [S_fs_Disk_Rise_2_eq]
  exact bd rfl (bd rfl (bd e3 (bd rfl (bd rfl (bd e4 rfl)))))

/-! ### Copies, new ones -/
def newDsk (room : Int) : Dsk := ⟨room, 0, -1, false, 0⟩
-- chainman/fs.New: function 8
noncomputable def Efs_New : XE := { T := tabOf [(3, r3), (4, r4), (9, r9), (25, r25), (26, r26), (71, r71), (73, r73), (81, r81)], C := [], D := [], Ms := [], Ml := [], Mo := [(1006, [0, 9])], n := 14 }
theorem Efs_New_ok : XE.Ok Efs_New Try.prog := ⟨tabOf_ok (⟨r3_ok, ⟨r4_ok, ⟨r9_ok, ⟨r25_ok, ⟨r26_ok, ⟨r71_ok, ⟨r73_ok, ⟨r81_ok, trivial⟩⟩⟩⟩⟩⟩⟩⟩), trivial, ydOk_none, trivial⟩
noncomputable def c8 : Code := bodyOf f8
noncomputable def S_fs_New (room0 : Int) (h : AHeap) : Option (AVal × AHeap) := xfun Efs_New f8 [(.lit (.int .i64 room0))] h
noncomputable def S_fs_New_0 (room0 : Int) (t9 : Bool) (h : AHeap) : Option (AVal × AHeap) := jo Efs_New 1 (rops (ca (ca (cb c8)))) ((rops (ca (ca (cb c8)))).toList.drop 6) 6 [(0, (.lit (.int .i64 room0))), (9, (.lit (.bool t9)))] h (kN (kSeq Efs_New (cb (ca (cb c8))) (kSeq Efs_New (cb (cb c8)) (xend Efs_New f8))))
theorem S_fs_New_eq (room0 : Int) (h : AHeap) : S_fs_New room0 h =
 bif (decide (room0 < 0)) then (S_fs_New_0 room0 true h)
 else (S_fs_New_0 room0 (decide (room0 > 16777216)) h) := by kernel_rfl
theorem S_fs_New_0_eq (room0 : Int) (t9 : Bool) (h : AHeap) : S_fs_New_0 room0 t9 h =
 bif t9 then (some ((.tup [(.lit (.pointer none)), (.lit (.int .i64 1))]), h))
 else (some ((.tup [(.ptr (((psh h (.map .str []))).length) 0), (.lit (.int .i64 0))]), (psh ((psh h (.map .str []))) (.cells ([(.lit (.bool true)), (.lit (.int .i64 room0)), (.lit (.int .i64 0)), (.map h.length), (.lit (.int .i64 (-1))), (.lit (.bool false)), (.lit (.int .i64 0))]))))) := (jo_eq ..).trans (by kernel_rfl)
theorem S_fs_New_ends {room0 : Int} {h h' : AHeap} {v : AVal} {R : AEnd → AHeap → Prop} (hx : S_fs_New room0 h = some (v, h')) (hR : HOk h → h.length ≤ h'.length → ABody.AEnds h h' (.ret v) R) : ACalls Try.prog 8 [(.lit (.int .i64 room0))] h R := xfun_ends Efs_New_ok tmix (i := 8) (by rfl) (by kernel_rfl) (by kernel_rfl) hx hR
noncomputable def w_fs_New : XC := .l fun R args h K => match args with
  | [.lit (.int .i64 a0)] => (S_fs_New a0 h).bind fun r => K r.1 r.2
  | _ => none
theorem w_fs_New_ok : XC.Nat w_fs_New ∧ XC.Ok Try.prog 8 w_fs_New := by
  refine ⟨fun R args h K => ?_, tc8, fun args h v h' hx => ?_⟩
  · dsimp only; split <;> simp [Option.bind_assoc, mkP]
  · dsimp only at hx; split at hx
    · obtain ⟨r, hopt, hx⟩ := Option.bind_eq_some_iff.1 hx
      simp only [mkP, Option.some.injEq, Prod.mk.injEq] at hx
      obtain ⟨rfl, rfl⟩ := hx
      exact (by obtain ⟨v, h'⟩ := r; exact S_fs_New_ends hopt selfR)
    · cases hx
theorem new_run (h : AHeap) {room : Int} (h0 : 0 ≤ room) (h1 : room ≤ 16777216) : ∃ h', S_fs_New room h = some (.tup [.ptr (h.length + 1) 0, .lit (.int .i64 0)], h') ∧ DiskAt h' (h.length + 1) h.length (newDsk room) [] ∧ (∀ c, c < h.length → h'[c]? = h[c]?) ∧ h'.length = h.length + 2 := by
  refine ⟨psh (psh h (.map .str [])) (.cells (dskC h.length (newDsk room))), ?_, ⟨?_, ?_⟩, fun c hc => ?_, by simp [psh]⟩
  · rw [S_fs_New_eq]
    refine cF (by simp; omega) ?_
    rw [S_fs_New_0_eq]
    refine cF (by simp; omega) ?_
    rw [psh_length]; rfl
  · have := cellsAt_new (psh h (.map .str [])) (dskC h.length (newDsk room))
    rw [psh_length] at this; exact this
  · show ((h ++ [_]) ++ [_])[h.length]? = _
    rw [List.getElem?_append_left (by simp)]; simp; rfl
  · show ((h ++ [_]) ++ [_])[c]? = _
    rw [List.getElem?_append_left (by simp; omega), List.getElem?_append_left hc]
theorem new_not (h : AHeap) {room : Int} (h0 : room < 0 ∨ 16777216 < room) : S_fs_New room h = some (.tup [.lit (.pointer none), .lit (.int .i64 1)], h) := by
  rw [S_fs_New_eq]
  by_cases hr : room < 0
  · refine cT (by simpa using hr) ?_
    rw [S_fs_New_0_eq]; rfl
  · refine cF (by simpa using hr) ?_
    rw [S_fs_New_0_eq]
    exact cT (by simp; omega) rfl
end ops
end Go.Proofs.Yteclkehnppeobaa.AL
/- The commit: its functions. -/
namespace Go.Proofs.Yteclkehnppeobaa.AL
set_option linter.unusedVariables false
set_option linter.unusedSimpArgs false
set_option maxRecDepth 100000
open Go
open Go.Proofs.Try
-- chainman/commit.clear: function 37
noncomputable def Ecommit_clear : XE := { T := tabOf [(3, r3), (4, r4), (25, r25), (26, r26)], C := [(22, w_fs_Disk_Size), (87, w_fs_Disk_Remove)], D := [], Ms := [], Ml := [], Mo := [], n := 18 }
theorem Ecommit_clear_ok : XE.Ok Ecommit_clear Try.prog := ⟨tabOf_ok (⟨r3_ok, ⟨r4_ok, ⟨r25_ok, ⟨r26_ok, trivial⟩⟩⟩⟩), (⟨w_fs_Disk_Size_ok, ⟨w_fs_Disk_Remove_ok, trivial⟩⟩), ydOk_none, trivial⟩
noncomputable def c37 : Code := bodyOf f37
noncomputable def S_commit_clear (d0 : AVal) (h : AHeap) : Option (AVal × AHeap) := xfun Ecommit_clear f37 [d0] h
theorem S_commit_clear_eq (d0 : AVal) (h : AHeap) : S_commit_clear d0 h =
 (S_fs_Disk_Size d0 (⟨#[109, 97, 110, 105, 102, 101, 115, 116, 46, 110, 101, 119]⟩ : ByteArray) h).bind fun r1 =>
 (xExtract r1.1 0).bind fun x2 =>
 (asI .i64 x2).bind fun n3 =>
 (xExtract r1.1 1).bind fun x4 =>
 (asI .i64 x4).bind fun n5 =>
 bif (decide (n5 = 0)) then ((S_fs_Disk_Remove d0 (⟨#[109, 97, 110, 105, 102, 101, 115, 116, 46, 110, 101, 119]⟩ : ByteArray) r1.2).bind fun r6 =>
 (asI .i64 r6.1).bind fun n7 =>
 some ((.lit (.int .i64 n7)), r6.2))
 else (bif (decide (n5 = 2)) then (some ((.lit (.int .i64 0)), r1.2))
 else (some ((.lit (.int .i64 n5)), r1.2))) := by kernel_rfl
theorem S_commit_clear_ends {d0 : AVal} {h h' : AHeap} {v : AVal} {R : AEnd → AHeap → Prop} (hx : S_commit_clear d0 h = some (v, h')) (hR : HOk h → h.length ≤ h'.length → ABody.AEnds h h' (.ret v) R) : ACalls Try.prog 37 [d0] h R := xfun_ends Ecommit_clear_ok tmix (i := 37) (by rfl) (by kernel_rfl) (by kernel_rfl) hx hR
noncomputable def w_commit_clear : XC := .l fun R args h K => match args with
  | [a0] => (S_commit_clear a0 h).bind fun r => K r.1 r.2
  | _ => none
theorem w_commit_clear_ok : XC.Nat w_commit_clear ∧ XC.Ok Try.prog 37 w_commit_clear := by
  refine ⟨fun R args h K => ?_, tc37, fun args h v h' hx => ?_⟩
  · dsimp only; split <;> simp [Option.bind_assoc, mkP]
  · dsimp only at hx; split at hx
    · obtain ⟨r, hopt, hx⟩ := Option.bind_eq_some_iff.1 hx
      simp only [mkP, Option.some.injEq, Prod.mk.injEq] at hx
      obtain ⟨rfl, rfl⟩ := hx
      exact (by obtain ⟨v, h'⟩ := r; exact S_commit_clear_ends hopt selfR)
    · cases hx
-- chainman/commit.Save$1: function 36
noncomputable def Ecommit_Save_fn1 : XE := { T := tabOf [(25, r25), (26, r26)], C := [(37, w_commit_clear)], D := [], Ms := [], Ml := [], Mo := [], n := 4 }
theorem Ecommit_Save_fn1_ok : XE.Ok Ecommit_Save_fn1 Try.prog := ⟨tabOf_ok (⟨r25_ok, ⟨r26_ok, trivial⟩⟩), (⟨w_commit_clear_ok, trivial⟩), ydOk_none, trivial⟩
noncomputable def c36 : Code := bodyOf f36
noncomputable def S_commit_Save_fn1 (t0 : AVal) (h : AHeap) : Option (AVal × AHeap) := xfun Ecommit_Save_fn1 f36 [t0] h
theorem S_commit_Save_fn1_eq (t0 : AVal) (h : AHeap) : S_commit_Save_fn1 t0 h =
 (ld1 h t0).bind fun x1 =>
 (S_commit_clear x1 h).bind fun r2 =>
 (asI .i64 r2.1).bind fun n3 =>
 some ((.lit (.int .i64 n3)), r2.2) := by kernel_rfl
theorem S_commit_Save_fn1_ends {t0 : AVal} {h h' : AHeap} {v : AVal} {R : AEnd → AHeap → Prop} (hx : S_commit_Save_fn1 t0 h = some (v, h')) (hR : HOk h → h.length ≤ h'.length → ABody.AEnds h h' (.ret v) R) : ACalls Try.prog 36 [t0] h R := xfun_ends Ecommit_Save_fn1_ok tmix (i := 36) (by rfl) (by kernel_rfl) (by kernel_rfl) hx hR
noncomputable def w_commit_Save_fn1 : XC := .l fun R args h K => match args with
  | [a0] => (S_commit_Save_fn1 a0 h).bind fun r => K r.1 r.2
  | _ => none
theorem w_commit_Save_fn1_ok : XC.Nat w_commit_Save_fn1 ∧ XC.Ok Try.prog 36 w_commit_Save_fn1 := by
  refine ⟨fun R args h K => ?_, tc36, fun args h v h' hx => ?_⟩
  · dsimp only; split <;> simp [Option.bind_assoc, mkP]
  · dsimp only at hx; split at hx
    · obtain ⟨r, hopt, hx⟩ := Option.bind_eq_some_iff.1 hx
      simp only [mkP, Option.some.injEq, Prod.mk.injEq] at hx
      obtain ⟨rfl, rfl⟩ := hx
      exact (by obtain ⟨v, h'⟩ := r; exact S_commit_Save_fn1_ends hopt selfR)
    · cases hx
-- chainman/commit.Save$2: function 38
noncomputable def Ecommit_Save_fn2 : XE := { T := tabOf [(25, r25), (26, r26)], C := [(39, w_fs_Disk_Create)], D := [], Ms := [], Ml := [], Mo := [], n := 4 }
theorem Ecommit_Save_fn2_ok : XE.Ok Ecommit_Save_fn2 Try.prog := ⟨tabOf_ok (⟨r25_ok, ⟨r26_ok, trivial⟩⟩), (⟨w_fs_Disk_Create_ok, trivial⟩), ydOk_none, trivial⟩
noncomputable def c38 : Code := bodyOf f38
noncomputable def S_commit_Save_fn2 (t0 : AVal) (h : AHeap) : Option (AVal × AHeap) := xfun Ecommit_Save_fn2 f38 [t0] h
theorem S_commit_Save_fn2_eq (t0 : AVal) (h : AHeap) : S_commit_Save_fn2 t0 h =
 (ld1 h t0).bind fun x1 =>
 (S_fs_Disk_Create x1 (⟨#[109, 97, 110, 105, 102, 101, 115, 116, 46, 110, 101, 119]⟩ : ByteArray) h).bind fun r2 =>
 (asI .i64 r2.1).bind fun n3 =>
 some ((.lit (.int .i64 n3)), r2.2) := by kernel_rfl
theorem S_commit_Save_fn2_ends {t0 : AVal} {h h' : AHeap} {v : AVal} {R : AEnd → AHeap → Prop} (hx : S_commit_Save_fn2 t0 h = some (v, h')) (hR : HOk h → h.length ≤ h'.length → ABody.AEnds h h' (.ret v) R) : ACalls Try.prog 38 [t0] h R := xfun_ends Ecommit_Save_fn2_ok tmix (i := 38) (by rfl) (by kernel_rfl) (by kernel_rfl) hx hR
noncomputable def w_commit_Save_fn2 : XC := .l fun R args h K => match args with
  | [a0] => (S_commit_Save_fn2 a0 h).bind fun r => K r.1 r.2
  | _ => none
theorem w_commit_Save_fn2_ok : XC.Nat w_commit_Save_fn2 ∧ XC.Ok Try.prog 38 w_commit_Save_fn2 := by
  refine ⟨fun R args h K => ?_, tc38, fun args h v h' hx => ?_⟩
  · dsimp only; split <;> simp [Option.bind_assoc, mkP]
  · dsimp only at hx; split at hx
    · obtain ⟨r, hopt, hx⟩ := Option.bind_eq_some_iff.1 hx
      simp only [mkP, Option.some.injEq, Prod.mk.injEq] at hx
      obtain ⟨rfl, rfl⟩ := hx
      exact (by obtain ⟨v, h'⟩ := r; exact S_commit_Save_fn2_ends hopt selfR)
    · cases hx
-- chainman/commit.Save$3: function 40
noncomputable def Ecommit_Save_fn3 : XE := { T := tabOf [(9, r9), (25, r25), (26, r26)], C := [(41, w_fs_Disk_Append)], D := [], Ms := [], Ml := [], Mo := [], n := 6 }
theorem Ecommit_Save_fn3_ok : XE.Ok Ecommit_Save_fn3 Try.prog := ⟨tabOf_ok (⟨r9_ok, ⟨r25_ok, ⟨r26_ok, trivial⟩⟩⟩), (⟨w_fs_Disk_Append_ok, trivial⟩), ydOk_none, trivial⟩
noncomputable def c40 : Code := bodyOf f40
noncomputable def S_commit_Save_fn3 (t0 : AVal) (t1 : AVal) (h : AHeap) : Option (AVal × AHeap) := xfun Ecommit_Save_fn3 f40 [t0, t1] h
theorem S_commit_Save_fn3_eq (t0 : AVal) (t1 : AVal) (h : AHeap) : S_commit_Save_fn3 t0 t1 h =
 (ld1 h t0).bind fun x1 =>
 (ld1 h t1).bind fun x2 =>
 (asS x2).bind fun s3 =>
 (S_fs_Disk_Append x1 (⟨#[109, 97, 110, 105, 102, 101, 115, 116, 46, 110, 101, 119]⟩ : ByteArray) s3 h).bind fun r4 =>
 (asI .i64 r4.1).bind fun n5 =>
 some ((.lit (.int .i64 n5)), r4.2) := by kernel_rfl
theorem S_commit_Save_fn3_ends {t0 : AVal} {t1 : AVal} {h h' : AHeap} {v : AVal} {R : AEnd → AHeap → Prop} (hx : S_commit_Save_fn3 t0 t1 h = some (v, h')) (hR : HOk h → h.length ≤ h'.length → ABody.AEnds h h' (.ret v) R) : ACalls Try.prog 40 [t0, t1] h R := xfun_ends Ecommit_Save_fn3_ok tmix (i := 40) (by rfl) (by kernel_rfl) (by kernel_rfl) hx hR
noncomputable def w_commit_Save_fn3 : XC := .l fun R args h K => match args with
  | [a0, a1] => (S_commit_Save_fn3 a0 a1 h).bind fun r => K r.1 r.2
  | _ => none
theorem w_commit_Save_fn3_ok : XC.Nat w_commit_Save_fn3 ∧ XC.Ok Try.prog 40 w_commit_Save_fn3 := by
  refine ⟨fun R args h K => ?_, tc40, fun args h v h' hx => ?_⟩
  · dsimp only; split <;> simp [Option.bind_assoc, mkP]
  · dsimp only at hx; split at hx
    · obtain ⟨r, hopt, hx⟩ := Option.bind_eq_some_iff.1 hx
      simp only [mkP, Option.some.injEq, Prod.mk.injEq] at hx
      obtain ⟨rfl, rfl⟩ := hx
      exact (by obtain ⟨v, h'⟩ := r; exact S_commit_Save_fn3_ends hopt selfR)
    · cases hx
-- chainman/commit.Save$4: function 42
noncomputable def Ecommit_Save_fn4 : XE := { T := tabOf [(25, r25), (26, r26)], C := [(43, w_fs_Disk_Sync)], D := [], Ms := [], Ml := [], Mo := [], n := 4 }
theorem Ecommit_Save_fn4_ok : XE.Ok Ecommit_Save_fn4 Try.prog := ⟨tabOf_ok (⟨r25_ok, ⟨r26_ok, trivial⟩⟩), (⟨w_fs_Disk_Sync_ok, trivial⟩), ydOk_none, trivial⟩
noncomputable def c42 : Code := bodyOf f42
noncomputable def S_commit_Save_fn4 (t0 : AVal) (h : AHeap) : Option (AVal × AHeap) := xfun Ecommit_Save_fn4 f42 [t0] h
theorem S_commit_Save_fn4_eq (t0 : AVal) (h : AHeap) : S_commit_Save_fn4 t0 h =
 (ld1 h t0).bind fun x1 =>
 (S_fs_Disk_Sync x1 (⟨#[109, 97, 110, 105, 102, 101, 115, 116, 46, 110, 101, 119]⟩ : ByteArray) h).bind fun r2 =>
 (asI .i64 r2.1).bind fun n3 =>
 some ((.lit (.int .i64 n3)), r2.2) := by kernel_rfl
theorem S_commit_Save_fn4_ends {t0 : AVal} {h h' : AHeap} {v : AVal} {R : AEnd → AHeap → Prop} (hx : S_commit_Save_fn4 t0 h = some (v, h')) (hR : HOk h → h.length ≤ h'.length → ABody.AEnds h h' (.ret v) R) : ACalls Try.prog 42 [t0] h R := xfun_ends Ecommit_Save_fn4_ok tmix (i := 42) (by rfl) (by kernel_rfl) (by kernel_rfl) hx hR
noncomputable def w_commit_Save_fn4 : XC := .l fun R args h K => match args with
  | [a0] => (S_commit_Save_fn4 a0 h).bind fun r => K r.1 r.2
  | _ => none
theorem w_commit_Save_fn4_ok : XC.Nat w_commit_Save_fn4 ∧ XC.Ok Try.prog 42 w_commit_Save_fn4 := by
  refine ⟨fun R args h K => ?_, tc42, fun args h v h' hx => ?_⟩
  · dsimp only; split <;> simp [Option.bind_assoc, mkP]
  · dsimp only at hx; split at hx
    · obtain ⟨r, hopt, hx⟩ := Option.bind_eq_some_iff.1 hx
      simp only [mkP, Option.some.injEq, Prod.mk.injEq] at hx
      obtain ⟨rfl, rfl⟩ := hx
      exact (by obtain ⟨v, h'⟩ := r; exact S_commit_Save_fn4_ends hopt selfR)
    · cases hx
-- chainman/commit.Save$5: function 44
noncomputable def Ecommit_Save_fn5 : XE := { T := tabOf [(25, r25), (26, r26)], C := [(45, w_fs_Disk_Rename)], D := [], Ms := [], Ml := [], Mo := [], n := 4 }
theorem Ecommit_Save_fn5_ok : XE.Ok Ecommit_Save_fn5 Try.prog := ⟨tabOf_ok (⟨r25_ok, ⟨r26_ok, trivial⟩⟩), (⟨w_fs_Disk_Rename_ok, trivial⟩), ydOk_none, trivial⟩
noncomputable def c44 : Code := bodyOf f44
noncomputable def S_commit_Save_fn5 (t0 : AVal) (h : AHeap) : Option (AVal × AHeap) := xfun Ecommit_Save_fn5 f44 [t0] h
theorem S_commit_Save_fn5_eq (t0 : AVal) (h : AHeap) : S_commit_Save_fn5 t0 h =
 (ld1 h t0).bind fun x1 =>
 (S_fs_Disk_Rename x1 (⟨#[109, 97, 110, 105, 102, 101, 115, 116, 46, 110, 101, 119]⟩ : ByteArray) (⟨#[109, 97, 110, 105, 102, 101, 115, 116]⟩ : ByteArray) h).bind fun r2 =>
 (asI .i64 r2.1).bind fun n3 =>
 some ((.lit (.int .i64 n3)), r2.2) := by kernel_rfl
theorem S_commit_Save_fn5_ends {t0 : AVal} {h h' : AHeap} {v : AVal} {R : AEnd → AHeap → Prop} (hx : S_commit_Save_fn5 t0 h = some (v, h')) (hR : HOk h → h.length ≤ h'.length → ABody.AEnds h h' (.ret v) R) : ACalls Try.prog 44 [t0] h R := xfun_ends Ecommit_Save_fn5_ok tmix (i := 44) (by rfl) (by kernel_rfl) (by kernel_rfl) hx hR
noncomputable def w_commit_Save_fn5 : XC := .l fun R args h K => match args with
  | [a0] => (S_commit_Save_fn5 a0 h).bind fun r => K r.1 r.2
  | _ => none
theorem w_commit_Save_fn5_ok : XC.Nat w_commit_Save_fn5 ∧ XC.Ok Try.prog 44 w_commit_Save_fn5 := by
  refine ⟨fun R args h K => ?_, tc44, fun args h v h' hx => ?_⟩
  · dsimp only; split <;> simp [Option.bind_assoc, mkP]
  · dsimp only at hx; split at hx
    · obtain ⟨r, hopt, hx⟩ := Option.bind_eq_some_iff.1 hx
      simp only [mkP, Option.some.injEq, Prod.mk.injEq] at hx
      obtain ⟨rfl, rfl⟩ := hx
      exact (by obtain ⟨v, h'⟩ := r; exact S_commit_Save_fn5_ends hopt selfR)
    · cases hx
-- chainman/commit.Save: function 10
noncomputable def Ecommit_Save : XE := { T := tabOf [(3, r3), (4, r4), (9, r9), (26, r26), (29, r29), (31, r31), (50, r50), (76, r76), (78, r78), (85, r85)], C := [(35, w_manifest_Put), (36, w_commit_Save_fn1), (38, w_commit_Save_fn2), (40, w_commit_Save_fn3), (42, w_commit_Save_fn4), (44, w_commit_Save_fn5)], D := [], Ms := [(12, [])], Ml := [(6, [24, 25, 26])], Mo := [], n := 36 }
theorem Ecommit_Save_ok : XE.Ok Ecommit_Save Try.prog := ⟨tabOf_ok (⟨r3_ok, ⟨r4_ok, ⟨r9_ok, ⟨r26_ok, ⟨r29_ok, ⟨r31_ok, ⟨r50_ok, ⟨r76_ok, ⟨r78_ok, ⟨r85_ok, trivial⟩⟩⟩⟩⟩⟩⟩⟩⟩⟩), (⟨w_manifest_Put_ok, ⟨w_commit_Save_fn1_ok, ⟨w_commit_Save_fn2_ok, ⟨w_commit_Save_fn3_ok, ⟨w_commit_Save_fn4_ok, ⟨w_commit_Save_fn5_ok, trivial⟩⟩⟩⟩⟩⟩), ydOk_none, trivial⟩
noncomputable def c10 : Code := bodyOf f10
noncomputable def S_commit_Save (d0 : AVal) (m1 : List AVal) (h : AHeap) : Option (AVal × AHeap) := xfun Ecommit_Save f10 [d0, (.agg m1)] h
noncomputable def S_commit_Save_0 (t24 : AVal) (t25 : Int) (t26 : Int) (h : AHeap) : Option (AVal × AHeap) := xexec Ecommit_Save (.loop (ca (ca (cb (ca (cb (cb (cb (cb c10))))))))) (AVal × AHeap) [(24, t24), (25, (.lit (.int .i64 t25))), (26, (.lit (.int .i64 t26)))] h (kBlk 0 (kSeq Ecommit_Save (cb (cb (cb (cb (cb c10))))) (xend Ecommit_Save f10)))
noncomputable def S_commit_Save_1  (h : AHeap) : Option (AVal × AHeap) := jn (xexec Ecommit_Save (cb (cb (cb (cb (cb c10))))) (AVal × AHeap) [] h (xend Ecommit_Save f10))
theorem S_commit_Save_eq (d0 : AVal) (m1 : List AVal) (h : AHeap) : S_commit_Save d0 m1 h =
 (AVal.parts d0).bind fun vs1 =>
 (ldn 3 ((psh ((psh h (.cells vs1))) (.cells m1))) (.ptr (((psh h (.cells vs1))).length) 0)).bind fun xs2 =>
 (S_manifest_Put xs2 ((psh ((psh h (.cells vs1))) (.cells m1)))).bind fun r3 =>
 (xExtract r3.1 0).bind fun x4 =>
 (asS x4).bind fun s6 =>
 (xExtract r3.1 1).bind fun x7 =>
 (asB x7).bind fun b8 =>
 (st1 ((psh r3.2 (.cells [(.lit (.string ({ data := #[] })))]))) (.ptr r3.2.length 0) (.lit (.string s6))).bind fun h9 =>
 bif (!b8) then (some ((.lit (.int .i64 1)), h9))
 else ((blitS 1 [(.lit (.nilFunc))] 5 [(0, (.fn (.func 36) [] [(.ptr h.length 0)])), (1, (.fn (.func 38) [] [(.ptr h.length 0)])), (2, (.fn (.func 40) [] [(.ptr h.length 0), (.ptr r3.2.length 0)])), (3, (.fn (.func 42) [] [(.ptr h.length 0)])), (4, (.fn (.func 44) [] [(.ptr h.length 0)]))] h9).bind fun r10 =>
 (lenV r10.1).bind fun n11 =>
 S_commit_Save_0 r10.1 n11 0 r10.2) := by kernel_rfl
theorem S_commit_Save_0_eq (t24 : AVal) (t25 : Int) (t26 : Int) (h : AHeap) : S_commit_Save_0 t24 t25 t26 h =
 bif (decide (t26 < t25)) then ((idxP 1 t24 t26).bind fun p12 =>
 (ld1 h p12).bind fun x13 =>
 callK Ecommit_Save.C Ecommit_Save.Y x13 [] h fun r14 h15 =>
 (asI .i64 r14).bind fun n16 =>
 bif (!decide (n16 = 0)) then (some ((.lit (.int .i64 n16)), h15))
 else (S_commit_Save_0 t24 t25 (IntKind.wrap .i64 (t26 + 1)) h15))
 else (S_commit_Save_1 h) := (xexec_loop Ecommit_Save Ecommit_Save_ok.C.nat _ _ _ _ _).trans (by kernel_rfl)
theorem S_commit_Save_1_eq  (h : AHeap) : S_commit_Save_1  h =
 some ((.lit (.int .i64 0)), h) := (jn_eq _).trans (by kernel_rfl)
theorem S_commit_Save_ends {d0 : AVal} {m1 : List AVal} {h h' : AHeap} {v : AVal} {R : AEnd → AHeap → Prop} (hx : S_commit_Save d0 m1 h = some (v, h')) (hR : HOk h → h.length ≤ h'.length → ABody.AEnds h h' (.ret v) R) : ACalls Try.prog 10 [d0, (.agg m1)] h R := xfun_ends Ecommit_Save_ok tmix (i := 10) (by rfl) (by kernel_rfl) (by kernel_rfl) hx hR
noncomputable def w_commit_Save : XC := .l fun R args h K => match args with
  | [a0, .agg a1] => (S_commit_Save a0 a1 h).bind fun r => K r.1 r.2
  | _ => none
theorem w_commit_Save_ok : XC.Nat w_commit_Save ∧ XC.Ok Try.prog 10 w_commit_Save := by
  refine ⟨fun R args h K => ?_, tc10, fun args h v h' hx => ?_⟩
  · dsimp only; split <;> simp [Option.bind_assoc, mkP]
  · dsimp only at hx; split at hx
    · obtain ⟨r, hopt, hx⟩ := Option.bind_eq_some_iff.1 hx
      simp only [mkP, Option.some.injEq, Prod.mk.injEq] at hx
      obtain ⟨rfl, rfl⟩ := hx
      exact (by obtain ⟨v, h'⟩ := r; exact S_commit_Save_ends hopt selfR)
    · cases hx
-- chainman/commit.Load: function 12
noncomputable def Ecommit_Load : XE := { T := tabOf [(3, r3), (4, r4), (9, r9), (25, r25), (26, r26), (29, r29), (31, r31), (50, r50), (85, r85)], C := [(22, w_fs_Disk_Size), (23, w_fs_Disk_Read), (47, w_manifest_Get)], D := [], Ms := [], Ml := [], Mo := [], n := 42 }
theorem Ecommit_Load_ok : XE.Ok Ecommit_Load Try.prog := ⟨tabOf_ok (⟨r3_ok, ⟨r4_ok, ⟨r9_ok, ⟨r25_ok, ⟨r26_ok, ⟨r29_ok, ⟨r31_ok, ⟨r50_ok, ⟨r85_ok, trivial⟩⟩⟩⟩⟩⟩⟩⟩⟩), (⟨w_fs_Disk_Size_ok, ⟨w_fs_Disk_Read_ok, ⟨w_manifest_Get_ok, trivial⟩⟩⟩), ydOk_none, trivial⟩
noncomputable def c12 : Code := bodyOf f12
noncomputable def S_commit_Load (d0 : AVal) (h : AHeap) : Option (AVal × AHeap) := xfun Ecommit_Load f12 [d0] h
theorem S_commit_Load_eq (d0 : AVal) (h : AHeap) : S_commit_Load d0 h =
 (S_fs_Disk_Size d0 (⟨#[109, 97, 110, 105, 102, 101, 115, 116]⟩ : ByteArray) ((psh h (.cells [(.lit (.int .i64 0)), (.lit (.int .i64 0)), (.lit (.slice none 0 0))])))).bind fun r1 =>
 (xExtract r1.1 0).bind fun x2 =>
 (asI .i64 x2).bind fun n3 =>
 (xExtract r1.1 1).bind fun x4 =>
 (asI .i64 x4).bind fun n6 =>
 bif (decide (n6 = 0)) then ((S_fs_Disk_Read d0 (⟨#[109, 97, 110, 105, 102, 101, 115, 116]⟩ : ByteArray) 0 n3 r1.2).bind fun r7 =>
 (xExtract r7.1 0).bind fun x8 =>
 (asS x8).bind fun s9 =>
 (xExtract r7.1 1).bind fun x10 =>
 (asI .i64 x10).bind fun n11 =>
 bif (!decide (n11 = 0)) then ((stn 3 r7.2 (.ptr h.length 0) ([(.lit (.int .i64 0)), (.lit (.int .i64 0)), (.lit (.slice none 0 0))])).bind fun h12 =>
 (ldn 3 h12 (.ptr h.length 0)).bind fun xs13 =>
 some ((.tup [(.agg xs13), (.lit (.bool false)), (.lit (.int .i64 n11))]), h12))
 else ((S_manifest_Get s9 r7.2).bind fun r14 =>
 (xExtract r14.1 0).bind fun x15 =>
 (asA x15).bind fun xs16 =>
 (xExtract r14.1 1).bind fun x17 =>
 (asB x17).bind fun b18 =>
 (stn 3 ((psh r14.2 (.cells [(.lit (.int .i64 0)), (.lit (.int .i64 0)), (.lit (.slice none 0 0))]))) (.ptr r14.2.length 0) xs16).bind fun h19 =>
 bif (!b18) then ((stn 3 h19 (.ptr h.length 0) ([(.lit (.int .i64 0)), (.lit (.int .i64 0)), (.lit (.slice none 0 0))])).bind fun h20 =>
 (ldn 3 h20 (.ptr h.length 0)).bind fun xs21 =>
 some ((.tup [(.agg xs21), (.lit (.bool false)), (.lit (.int .i64 6))]), h20))
 else ((ldn 3 h19 (.ptr r14.2.length 0)).bind fun xs22 =>
 (stn 3 h19 (.ptr h.length 0) xs22).bind fun h23 =>
 (ldn 3 h23 (.ptr h.length 0)).bind fun xs24 =>
 some ((.tup [(.agg xs24), (.lit (.bool true)), (.lit (.int .i64 0))]), h23))))
 else (bif (decide (n6 = 2)) then ((stn 3 r1.2 (.ptr h.length 0) ([(.lit (.int .i64 0)), (.lit (.int .i64 0)), (.lit (.slice none 0 0))])).bind fun h25 =>
 (ldn 3 h25 (.ptr h.length 0)).bind fun xs26 =>
 some ((.tup [(.agg xs26), (.lit (.bool false)), (.lit (.int .i64 0))]), h25))
 else ((stn 3 r1.2 (.ptr h.length 0) ([(.lit (.int .i64 0)), (.lit (.int .i64 0)), (.lit (.slice none 0 0))])).bind fun h27 =>
 (ldn 3 h27 (.ptr h.length 0)).bind fun xs28 =>
 some ((.tup [(.agg xs28), (.lit (.bool false)), (.lit (.int .i64 n6))]), h27))) := by kernel_rfl
theorem S_commit_Load_ends {d0 : AVal} {h h' : AHeap} {v : AVal} {R : AEnd → AHeap → Prop} (hx : S_commit_Load d0 h = some (v, h')) (hR : HOk h → h.length ≤ h'.length → ABody.AEnds h h' (.ret v) R) : ACalls Try.prog 12 [d0] h R := xfun_ends Ecommit_Load_ok tmix (i := 12) (by rfl) (by kernel_rfl) (by kernel_rfl) hx hR
noncomputable def w_commit_Load : XC := .l fun R args h K => match args with
  | [a0] => (S_commit_Load a0 h).bind fun r => K r.1 r.2
  | _ => none
theorem w_commit_Load_ok : XC.Nat w_commit_Load ∧ XC.Ok Try.prog 12 w_commit_Load := by
  refine ⟨fun R args h K => ?_, tc12, fun args h v h' hx => ?_⟩
  · dsimp only; split <;> simp [Option.bind_assoc, mkP]
  · dsimp only at hx; split at hx
    · obtain ⟨r, hopt, hx⟩ := Option.bind_eq_some_iff.1 hx
      simp only [mkP, Option.some.injEq, Prod.mk.injEq] at hx
      obtain ⟨rfl, rfl⟩ := hx
      exact (by obtain ⟨v, h'⟩ := r; exact S_commit_Load_ends hopt selfR)
    · cases hx
end Go.Proofs.Yteclkehnppeobaa.AL
/- Files by name, and another name for a file. -/
namespace Go.Proofs.Yteclkehnppeobaa.AL
set_option linter.unusedVariables false
set_option linter.unusedSimpArgs false
set_option maxRecDepth 100000
open Go
open Go.Proofs.Try
theorem fask_flay : ∀ (l : List File) (n : ByteArray) (x : ByteArray × Int), fask (flay l n x) n = some x
  | [], n, x => by simp [flay, fask]
  | f :: l, n, x => by
    unfold flay
    by_cases h : f.1 = n
    · rw [if_pos h]; simp [fask]
    · rw [if_neg h]; simp only [fask, if_neg h]; exact fask_flay l n x
theorem fask_flay_ne {m n : ByteArray} (hne : m ≠ n) : ∀ (l : List File) (x : ByteArray × Int), fask (flay l n x) m = fask l m
  | [], x => by simp [flay, fask, Ne.symm hne]
  | f :: l, x => by
    unfold flay
    by_cases h : f.1 = n
    · rw [if_pos h]
      simp only [fask]
      rw [if_neg (Ne.symm hne), if_neg (by rw [h]; exact Ne.symm hne)]
    · rw [if_neg h]
      simp only [fask]
      rw [fask_flay_ne hne l x]
theorem fask_fdrop_ne {m n : ByteArray} (hne : m ≠ n) : ∀ (l : List File), fask (fdrop l n) m = fask l m
  | [] => rfl
  | f :: l => by
    unfold fdrop
    by_cases h : f.1 = n
    · rw [if_pos h]; simp only [fask]; rw [if_neg (by rw [h]; exact Ne.symm hne)]
    · rw [if_neg h]
      simp only [fask]
      rw [fask_fdrop_ne hne l]
theorem flay_len_has : ∀ {l : List File} {n : ByteArray} {x : ByteArray × Int}, fask l n ≠ none → (flay l n x).length = l.length
  | [], n, x, h => absurd rfl h
  | f :: l, n, x, h => by
    unfold flay
    by_cases he : f.1 = n
    · rw [if_pos he]; rfl
    · rw [if_neg he, List.length_cons, List.length_cons, flay_len_has (by simpa [fask, he] using h)]
theorem flay_len : ∀ (l : List File) (n : ByteArray) (x : ByteArray × Int), (flay l n x).length ≤ l.length + 1
  | [], n, x => by simp [flay]
  | f :: l, n, x => by
    unfold flay
    by_cases he : f.1 = n
    · rw [if_pos he]; simp
    · rw [if_neg he]; simp only [List.length_cons]; have := flay_len l n x; omega
theorem fdrop_len : ∀ (l : List File) (n : ByteArray), (fdrop l n).length ≤ l.length
  | [], n => by simp [fdrop]
  | f :: l, n => by
    unfold fdrop
    by_cases he : f.1 = n
    · rw [if_pos he]; simp
    · rw [if_neg he]; simp only [List.length_cons]; have := fdrop_len l n; omega
theorem fdrop_len_has : ∀ {l : List File} {n : ByteArray}, fask l n ≠ none → (fdrop l n).length + 1 = l.length
  | [], n, h => absurd rfl h
  | f :: l, n, h => by
    unfold fdrop
    by_cases he : f.1 = n
    · rw [if_pos he]; rfl
    · rw [if_neg he, List.length_cons, List.length_cons, fdrop_len_has (by simpa [fask, he] using h)]
theorem fdrop_all {p : File → Prop} : ∀ {l : List File} {n : ByteArray}, (∀ f ∈ l, p f) → ∀ f ∈ fdrop l n, p f
  | [], n, _, f, hf => by simp [fdrop] at hf
  | g :: l, n, hl, f, hf => by
    unfold fdrop at hf
    split at hf
    · exact hl f (by simp [hf])
    · rcases List.mem_cons.1 hf with rfl | hf
      · exact hl _ (by simp)
      · exact fdrop_all (fun f hf => hl f (by simp [hf])) f hf
theorem fask_mem : ∀ {l : List File} {n : ByteArray} {x : ByteArray × Int}, fask l n = some x → (n, x) ∈ l
  | [], n, x, h => by cases h
  | f :: l, n, x, h => by
    unfold fask at h
    by_cases he : f.1 = n
    · rw [if_pos he] at h
      cases h
      rw [← he]; exact List.mem_cons_self ..
    · rw [if_neg he] at h
      exact List.mem_cons_of_mem _ (fask_mem h)
theorem fask_name : ∀ {l : List File} {n : ByteArray}, fask l n ≠ none ↔ n ∈ l.map (·.1)
  | [], n => by simp [fask]
  | f :: l, n => by
    unfold fask
    by_cases he : f.1 = n
    · rw [if_pos he]; simp [he]
    · rw [if_neg he, fask_name (l := l)]
      simp [Ne.symm he]
/-! What 'find' told. -/
theorem find_ok {D : Dsk} {l : List File} {n : ByteArray} {may : Bool} (h : (findR D l n may).2 = 0) : may = true ∧ downN D = false ∧ fask l n = some (findR D l n may).1 ∧ findD D n may = callD D := by
  unfold findR at h ⊢
  unfold findD
  cases hm : (may && rightB n) with
  | false => rw [hm] at h; cases h
  | true =>
    rw [hm] at h
    simp only [if_true] at h ⊢
    cases hd : downN D with
    | true => rw [hd] at h; cases h
    | false =>
      rw [hd] at h
      simp only [Bool.false_eq_true, if_false] at h ⊢
      cases hf : fask l n with
      | none => rw [hf] at h; cases h
      | some x => exact ⟨(Bool.and_eq_true _ _ ▸ hm).1, trivial, by first | rfl | trivial, trivial⟩
theorem find_none {D : Dsk} {l : List File} {n : ByteArray} {may : Bool} (h : (findR D l n may).2 = 2) : may = true ∧ downN D = false ∧ fask l n = none ∧ findD D n may = callD D := by
  unfold findR at h
  unfold findD
  cases hm : (may && rightB n) with
  | false => rw [hm] at h; cases h
  | true =>
    rw [hm] at h
    simp only [if_true] at h ⊢
    cases hd : downN D with
    | true => rw [hd] at h; cases h
    | false =>
      rw [hd] at h
      simp only [Bool.false_eq_true, if_false] at h ⊢
      cases hf : fask l n with
      | none => exact ⟨(Bool.and_eq_true _ _ ▸ hm).1, trivial, rfl, trivial⟩
      | some x => rw [hf] at h; cases h
section ops
variable {h0 h : AHeap} {d mb : Nat} {D : Dsk} {l : List File} {dc : List AVal} {es : List (Value × AVal)}
theorem DH.grow {g : AHeap} (H : DH h0 h d mb dc es) (G : Grow h g) : DH h0 g d mb dc es ∧ Tmp h0 h g :=
  ⟨⟨G.cells H.dcs, G.get H.ms, H.ne, H.lt, H.keep.trans (G.less H.keep.len (fun c hc => by cases hc))⟩, fun c hc hl => Keep.get G c hl (fun h => by cases h)⟩
def renE (D : Dsk) (l : List File) (a b : ByteArray) : Int := (findR D l a (rightB b)).2
def renD (D : Dsk) (l : List File) (a b : ByteArray) : Dsk := if renE D l a b = 0 ∧ a ≠ b then
    { dropD (dropD (findD D a (rightB b)) l b) (fdrop l b) a with used := IntKind.wrap .i64 ((dropD (dropD (findD D a (rightB b)) l b) (fdrop l b) a).used + (((findR D l a (rightB b)).1.1.size : Nat) : Int)) } else findD D a (rightB b)
def renL (D : Dsk) (l : List File) (a b : ByteArray) : List File := if renE D l a b = 0 ∧ a ≠ b then flay (fdrop (fdrop l b) a) b (findR D l a (rightB b)).1 else l
theorem rename_run (H : DH h0 h d mb (dskC mb D) (fileE l)) (a b : ByteArray) (ha : a.size ≤ 9223372036854775807) (hb : b.size ≤ 9223372036854775807) :
    ∃ h', S_fs_Disk_Rename (.ptr d 0) a b h = some (.lit (.int .i64 (renE D l a b)), h') ∧ DH h0 h' d mb (dskC mb (renD D l a b)) (fileE (renL D l a b)) ∧ Tmp h0 h h' ∧ h.length ≤ h'.length := by
  obtain ⟨g, e, s1, H1, T1, l1, l0⟩ := after_find H a ha (rightB b)
  rw [S_fs_Disk_Rename_eq]
  have hE : renE D l a b = (findR D l a (rightB b)).2 := rfl
  unfold renD renL
  rw [hE]
  generalize hR : findR D l a (rightB b) = R at e s1 H1 T1 ⊢
  generalize hDD : findD D a (rightB b) = D1 at H1 ⊢
  have no : ∀ t, t = true → S_fs_Disk_Rename_0 (.ptr d 0) a b g.length R.2 t (psh g (.cells (fileC R.1.1 R.1.2))) = some (.lit (.int .i64 R.2), psh g (.cells (fileC R.1.1 R.1.2))) := fun t ht => by
    rw [ht, S_fs_Disk_Rename_0_eq]; rfl
  by_cases h2 : R.2 = 0
  · by_cases hab : a = b
    · refine ⟨_, ?_, by rw [if_neg (fun h => h.2 hab), if_neg (fun h => h.2 hab)]; exact H1, T1, by rw [psh_length]; omega⟩
      exact bd (req_true hb) (bd e (bd rfl (bd rfl (bd rfl (bd rfl (bd s1 (cF (by simp [h2]) (no _ (decide_eq_true hab)))))))))
    · rw [if_pos ⟨h2, hab⟩, if_pos ⟨h2, hab⟩]
      obtain ⟨g1, e1, Ha, Ta, la⟩ := drop_run H1 b
      obtain ⟨g2, e2, Hb, Tb, lb⟩ := drop_run Ha a
      rw [psh_length] at la
      have c0 : cellsAt (psh g (.cells (fileC R.1.1 R.1.2))) g.length = some (fileC R.1.1 R.1.2) := cellsAt_new _ _
      have c2 : cellsAt g2 g.length = some (fileC R.1.1 R.1.2) := Tb.cells l0 (Ta.cells l0 c0)
      obtain ⟨g3, e3, H3, T3, l3⟩ := Hb.stm (mput (.string b) (.agg (fileC R.1.1 R.1.2)))
      have c3 : cellsAt g3 g.length = some (fileC R.1.1 R.1.2) := T3.cells l0 c2
      obtain ⟨g4, e4, H4, T4, l4⟩ := H3.std (k := 2) (v := .lit (.int .i64 (IntKind.wrap .i64 ((dropD (dropD D1 l b) (fdrop l b) a).used + (((R.1.1.size : Nat)) : Int))))) (by rw [dskC_len]; omega) rfl
      refine ⟨g4, ?_, ?_, fun c hc hl => (T4 c hc (by omega)).trans ((T3 c hc (by omega)).trans ((Tb c hc (by omega)).trans ((Ta c hc (by rw [psh_length]; omega)).trans (T1 c hc hl)))), by omega⟩
      · refine bd (req_true hb) (bd e (bd rfl (bd rfl (bd rfl (bd rfl (bd s1 (cF (by simp [h2]) ?_)))))))
        rw [decide_eq_false hab, S_fs_Disk_Rename_0_eq, h2]
        exact cF rfl (bd e1 (bd e2 (bd rfl (bd rfl (bd (Hb.ld (k := 3) rfl) (bd (ldn_of (n := 2) (off := 0) c2 (by exact Nat.le_refl _)) (bd e3 (bd rfl (bd rfl (bd (H3.ld (k := 2) rfl) (bd rfl (bd (ld1_of c3) (bd rfl (bd rfl (bd rfl (bd e4 rfl))))))))))))))))
      · rw [← mput_file]; exact H4
  · rw [if_neg (fun h => h2 h.1), if_neg (fun h => h2 h.1)]
    refine ⟨_, ?_, H1, T1, by rw [psh_length]; omega⟩
    exact bd (req_true hb) (bd e (bd rfl (bd rfl (bd rfl (bd rfl (bd s1 (cT (by simp [h2]) (no _ rfl))))))))
end ops
end Go.Proofs.Yteclkehnppeobaa.AL
/- The commit, as it runs: a manifest is there whole, or as it was. -/
namespace Go.Proofs.Yteclkehnppeobaa.AL
set_option linter.unusedVariables false
set_option linter.unusedSimpArgs false
set_option maxRecDepth 100000
open Go
open Go.Proofs.Try
abbrev nmN : ByteArray := ⟨#[109, 97, 110, 105, 102, 101, 115, 116]⟩
abbrev wyN : ByteArray := ⟨#[109, 97, 110, 105, 102, 101, 115, 116, 46, 110, 101, 119]⟩
theorem nmN_right : rightB nmN = true := by decide +kernel
theorem wyN_right : rightB wyN = true := by decide +kernel
theorem nm_wy : nmN ≠ wyN := by decide
structure LOk (l : List File) : Prop where
  ok : ∀ f ∈ l, FileOk f.2
  len : l.length ≤ 200
theorem LOk.nil : LOk [] := ⟨fun f hf => (by cases hf), by simp⟩
theorem zero_ok : FileOk ((⟨#[]⟩ : ByteArray), 0) := ⟨Int.le_refl _, by show (0 : Int) ≤ ((0 : Nat) : Int); omega, by show ((0 : Nat) : Int) ≤ _; omega⟩
theorem LOk.lay {l : List File} (o : LOk l) {n : ByteArray} {x : ByteArray × Int} (hx : FileOk x) (hn : fask l n ≠ none) : LOk (flay l n x) :=
  ⟨flay_all (p := fun f => FileOk f.2) o.ok hx, by rw [flay_len_has hn]; exact o.len⟩
theorem LOk.file {l : List File} (o : LOk l) {n : ByteArray} {x : ByteArray × Int} (h : fask l n = some x) : FileOk x := o.ok _ (fask_mem h)
section ops
variable {h0 h : AHeap} {d mb : Nat} {D : Dsk} {l : List File}
/-- What is behind an operation: its answer, the disk, what stays. -/
def Behind (h0 h : AHeap) (d mb : Nat) (l : List File) (x : Option (AVal × AHeap)) (P : Int → Dsk → List File → Prop) : Prop :=
  ∃ e D' l' h', x = some (.lit (.int .i64 e), h') ∧ DH h0 h' d mb (dskC mb D') (fileE l') ∧ Tmp h0 h h' ∧ h.length ≤ h'.length ∧ LOk l' ∧ P e D' l'
theorem clear_run (H : DH h0 h d mb (dskC mb D) (fileE l)) (o : LOk l) : Behind h0 h d mb l (S_commit_clear (.ptr d 0) h) fun e D' l' => fask l' nmN = fask l nmN := by
  obtain ⟨h1, e1, H1, T1, l1⟩ := size_run H wyN (by decide)
  rw [S_commit_clear_eq]
  by_cases hc : (findR D l wyN true).2 = 0
  · obtain ⟨h2, e2, H2, T2, l2⟩ := remove_run H1 wyN (by decide)
    have T := T1.trans T2 l1
    refine ⟨(findR (findD D wyN true) l wyN true).2, _, _, h2, ?_, H2, T, by omega, ?_, ?_⟩
    · exact bd e1 (bd rfl (bd rfl (bd rfl (bd rfl (cT (decide_eq_true hc) (bd e2 (bd rfl rfl)))))))
    · split
      · exact ⟨fdrop_all (p := fun f => FileOk f.2) o.ok, Nat.le_trans (fdrop_len _ _) o.len⟩
      · exact o
    · split
      · exact fask_fdrop_ne nm_wy _
      · rfl
  · refine ⟨if (findR D l wyN true).2 = 2 then 0 else (findR D l wyN true).2, _, _, h1, ?_, H1, T1, l1, o, rfl⟩
    refine bd e1 (bd rfl (bd rfl (bd rfl (bd rfl (cF (decide_eq_false hc) ?_)))))
    by_cases h2 : (findR D l wyN true).2 = 2
    · rw [if_pos h2]; exact cT (decide_eq_true h2) rfl
    · rw [if_neg h2]; exact cF (decide_eq_false h2) rfl
theorem mk_run (H : DH h0 h d mb (dskC mb D) (fileE l)) (o : LOk l) : Behind h0 h d mb l (S_fs_Disk_Create (.ptr d 0) wyN h) fun e D' l' => fask l' nmN = fask l nmN ∧ (e = 0 → fask l' wyN = some (⟨#[]⟩, 0)) := by
  obtain ⟨h1, e1, H1, T1, l1⟩ := create_run H wyN (by decide)
  refine ⟨_, _, _, h1, e1, H1, T1, l1, ?_, ?_, ?_⟩
  · unfold createL
    split
    · rename_i hc
      have hl := o.len
      refine ⟨flay_all (p := fun f => FileOk f.2) o.ok zero_ok, ?_⟩
      have := flay_len l wyN (⟨#[]⟩, 0)
      have := hc.2
      omega
    · exact o
  · unfold createL
    split
    · exact fask_flay_ne nm_wy _ _
    · rfl
  · intro he
    unfold createE at he
    unfold createL
    split at he
    · rename_i h2
      split at he
      · cases he
      · rename_i h3
        rw [if_pos ⟨h2, h3⟩]; exact fask_flay _ _ _
    · rename_i h2
      split at he
      · cases he
      · rename_i h3; exact absurd he h3
theorem put_run' (H : DH h0 h d mb (dskC mb D) (fileE l)) (o : LOk l) {s : ByteArray} (hs : s.size ≤ 4611686018427387904) (hw : fask l wyN = some (⟨#[]⟩, 0)) : Behind h0 h d mb l (S_fs_Disk_Append (.ptr d 0) wyN s h) fun e D' l' => fask l' nmN = fask l nmN ∧ (e = 0 → fask l' wyN = some (s, 0)) := by
  have hR : (findR D l wyN true).2 = 0 → (findR D l wyN true).1 = (⟨#[]⟩, 0) := fun h2 => by
    have := (find_ok h2).2.2.1
    rw [hw] at this
    exact (Option.some.inj this).symm
  have hE : appE D l wyN s = 0 → (findR D l wyN true).2 = 0 := fun he => by
    unfold appE at he
    split at he
    · rename_i hn; exact absurd he hn
    · rename_i hn; simpa using hn
  have hes : (⟨#[]⟩ : ByteArray) ++ s = s := by apply ByteArray.ext; simp
  obtain ⟨h1, e1, H1, T1, l1⟩ := append_run H wyN s (by decide) (fun he => by rw [hR (hE he)]; show (0 : Nat) + _ ≤ _; omega)
  refine ⟨_, _, _, h1, e1, H1, T1, l1, ?_, ?_, ?_⟩
  · unfold appL
    split
    · rename_i he
      rw [hR (hE he)]
      refine o.lay ?_ (by rw [hw]; simp)
      show FileOk ((⟨#[]⟩ : ByteArray) ++ s, 0)
      rw [hes]
      exact ⟨Int.le_refl _, by show (0 : Int) ≤ (s.size : Int); omega, by show (s.size : Int) ≤ _; omega⟩
    · exact o
  · unfold appL
    split
    · exact fask_flay_ne nm_wy _ _
    · rfl
  · intro he
    unfold appL
    rw [if_pos he, hR (hE he)]
    show fask (flay l wyN ((⟨#[]⟩ : ByteArray) ++ s, 0)) wyN = _
    rw [hes, fask_flay]
theorem keep_run (H : DH h0 h d mb (dskC mb D) (fileE l)) (o : LOk l) {s : ByteArray} (hw : fask l wyN = some (s, 0)) : Behind h0 h d mb l (S_fs_Disk_Sync (.ptr d 0) wyN h) fun e D' l' => fask l' nmN = fask l nmN ∧ (e = 0 → fask l' wyN = some (s, (s.size : Int))) := by
  have hR : (findR D l wyN true).2 = 0 → (findR D l wyN true).1 = (s, 0) := fun h2 => by
    have := (find_ok h2).2.2.1
    rw [hw] at this
    exact (Option.some.inj this).symm
  have hok := o.file hw
  obtain ⟨h1, e1, H1, T1, l1⟩ := sync_run H wyN (by decide)
  refine ⟨_, _, _, h1, e1, H1, T1, l1, ?_, ?_, ?_⟩
  · unfold syncL
    split
    · rename_i he
      rw [hR he]
      exact o.lay ⟨by show (0 : Int) ≤ (s.size : Int); omega, Int.le_refl _, hok.2.2⟩ (by rw [hw]; simp)
    · exact o
  · unfold syncL
    split
    · exact fask_flay_ne nm_wy _ _
    · rfl
  · intro he
    unfold syncL
    rw [if_pos he, hR he, fask_flay]
theorem way_run (H : DH h0 h d mb (dskC mb D) (fileE l)) (o : LOk l) {s : ByteArray} (hw : fask l wyN = some (s, (s.size : Int))) : Behind h0 h d mb l (S_fs_Disk_Rename (.ptr d 0) wyN nmN h) fun e D' l' => (e ≠ 0 → fask l' nmN = fask l nmN) ∧ (e = 0 → fask l' nmN = some (s, (s.size : Int))) := by
  have hok := o.file hw
  obtain ⟨h1, e1, H1, T1, l1⟩ := rename_run H wyN nmN (by decide) (by decide)
  have hR : renE D l wyN nmN = 0 → (findR D l wyN (rightB nmN)).1 = (s, (s.size : Int)) := fun h2 => by
    have := (find_ok h2).2.2.1
    rw [hw] at this
    exact (Option.some.inj this).symm
  refine ⟨_, _, _, h1, e1, H1, T1, l1, ?_, ?_, ?_⟩
  · unfold renL
    split
    · rename_i he
      rw [hR he.1]
      refine ⟨flay_all (p := fun f => FileOk f.2) (fdrop_all (p := fun f => FileOk f.2) (fdrop_all (p := fun f => FileOk f.2) o.ok)) hok, ?_⟩
      have h2 : fask (fdrop l nmN) wyN ≠ none := by rw [fask_fdrop_ne (Ne.symm nm_wy), hw]; simp
      have h3 := fdrop_len_has h2
      have h4 := fdrop_len l nmN
      have h5 := flay_len (fdrop (fdrop l nmN) wyN) nmN (s, (s.size : Int))
      have h6 := o.len
      omega
    · exact o
  · intro he
    unfold renL
    rw [if_neg (fun h => he h.1)]
  · intro he
    unfold renL
    rw [if_pos ⟨he, Ne.symm nm_wy⟩, hR he, fask_flay]
end ops
/-! ### Save -/
def stepsC (a s : Nat) : List AVal := [.fn (.func 36) [] [.ptr a 0], .fn (.func 38) [] [.ptr a 0], .fn (.func 40) [] [.ptr a 0, .ptr s 0], .fn (.func 42) [] [.ptr a 0], .fn (.func 44) [] [.ptr a 0]]
theorem save_step {a s b i : Nat} {F : AVal} {g g' : AHeap} {e : Int} (hc : cellsAt g b = some (stepsC a s)) (hF : (stepsC a s)[i]? = some F) (hi : i < 5)
    (hrun : ∀ {R : Type} (K : AVal → AHeap → Option R), callK Ecommit_Save.C Ecommit_Save.Y F [] g K = K (.lit (.int .i64 e)) g') :
    S_commit_Save_0 (.sl 1 b 0 5) 5 (i : Int) g = cond (!decide (e = 0)) (some (.lit (.int .i64 e), g')) (S_commit_Save_0 (.sl 1 b 0 5) 5 ((i + 1 : Nat) : Int) g') := by
  have idx : idxP 1 (.sl 1 b 0 5) (i : Int) = some (.ptr b i) := by
    unfold idxP; simp only [Nat.beq_refl]; rw [req_true (by omega)]; simp
  rw [S_commit_Save_0_eq, decide_eq_true (by omega), cond_true, idx, Option.bind_some, ld1_of hc, hF, Option.bind_some, hrun, wrap_i64 (by omega) (by omega)]
  rfl
theorem save_run {h0 h : AHeap} {d mb : Nat} {D : Dsk} {l : List File} (H : DH h0 h d mb (dskC mb D) (fileE l)) (o : LOk l) {m : Man} {v : AVal} (S : Sl 4 h v m.files.length (filesW m.files)) (hs : ∀ f ∈ m.files, f.name.size ≤ 9223372036854775807) (hu : ∀ f ∈ m.files, 0 ≤ f.sum ∧ f.sum < 4294967296) :
    Behind h0 h d mb l (S_commit_Save (.ptr d 0) (m.cells v) h) fun e D' l' => (e ≠ 0 → fask l' nmN = fask l nmN) ∧ (e = 0 → manB m = true ∧ fask l' nmN = some (manP m, ((manP m).size : Int))) := by
  have G1 : Grow h (psh h (.cells [.ptr d 0])) := (Grow.refl h).psh _
  have G2 : Grow h (psh (psh h (.cells [.ptr d 0])) (.cells (m.cells v))) := G1.psh _
  have ca : cellsAt (psh (psh h (.cells [.ptr d 0])) (.cells (m.cells v))) h.length = some [.ptr d 0] := cellsAt_psh _ (cellsAt_new h _)
  have cm : cellsAt (psh (psh h (.cells [.ptr d 0])) (.cells (m.cells v))) (psh h (.cells [.ptr d 0])).length = some (m.cells v) := cellsAt_new _ _
  have hlen0 := H.keep.len
  rw [S_commit_Save_eq]
  cases hb : manB m with
  | false =>
    obtain ⟨g3, a3, G3⟩ := mput_no (S.grow G2) hs hb
    have cs : cellsAt (psh g3 (.cells [.lit (.string { data := #[] })])) g3.length = some [.lit (.string { data := #[] })] := cellsAt_new g3 _
    have G4 : Grow h ((psh g3 (.cells [.lit (.string { data := #[] })])).set g3.length (.cells [.lit (.string ⟨#[]⟩)])) := ((G2.trans G3).psh _).set (G2.trans G3).len
    obtain ⟨H4, T4⟩ := H.grow G4
    refine ⟨1, D, l, _, ?_, H4, T4, G4.len, o, fun _ => rfl, fun h => by cases h⟩
    exact bd rfl (bd (ldn_of (n := 3) (off := 0) cm (by exact Nat.le_refl _)) (bd a3 (bd rfl (bd rfl (bd rfl (bd rfl (bd (st1_of cs rfl (Nat.le_refl _)) rfl)))))))
  | true =>
    have mok := mok_of hb hu
    have hml := manL_len mok
    have hpz : (manP m).size ≤ 4611686018427387904 := by
      have := mok.n
      unfold manP
      rw [closeB_size]
      show (manL m).toArray.size + 4 ≤ _
      rw [List.size_toArray]; omega
    obtain ⟨g3, a3, G3⟩ := mput_yes (S.grow G2) hs hb hu
    have cs : cellsAt (psh g3 (.cells [.lit (.string { data := #[] })])) g3.length = some [.lit (.string { data := #[] })] := cellsAt_new g3 _
    have cs' : cellsAt ((psh g3 (.cells [.lit (.string { data := #[] })])).set g3.length (.cells [.lit (.string (manP m))])) g3.length = some [.lit (.string (manP m))] := cellsAt_set cs
    have G4 : Grow h ((psh g3 (.cells [.lit (.string { data := #[] })])).set g3.length (.cells [.lit (.string (manP m))])) := ((G2.trans G3).psh _).set (G2.trans G3).len
    have ca4 : cellsAt ((psh g3 (.cells [.lit (.string { data := #[] })])).set g3.length (.cells [.lit (.string (manP m))])) h.length = some [.ptr d 0] := cellsAt_set_ne _ (by have := (G2.trans G3).len; have := G3.len; have := lt_of_getL (cellsAt_some ca); have := cellsAt_lt (G3.cells ca); have := G3.len; simp [psh] at *; omega) (cellsAt_psh _ (G3.cells ca))
    generalize hg4 : ((psh g3 (.cells [.lit (.string { data := #[] })])).set g3.length (.cells [.lit (.string (manP m))])) = g4 at cs' G4 ca4
    have G5 : Grow h (g4 ++ [.cells (stepsC h.length g3.length)]) := G4.psh _
    have ca5 : cellsAt (g4 ++ [.cells (stepsC h.length g3.length)]) h.length = some [.ptr d 0] := cellsAt_more _ ca4
    have cs5 : cellsAt (g4 ++ [.cells (stepsC h.length g3.length)]) g3.length = some [.lit (.string (manP m))] := cellsAt_more _ cs'
    have cb5 : cellsAt (g4 ++ [.cells (stepsC h.length g3.length)]) g4.length = some (stepsC h.length g3.length) := cellsAt_new g4 _
    obtain ⟨H5, T5⟩ := H.grow G5
    have hl3 := (G2.trans G3).len
    have hl4 := G4.len
    have l5 := G5.len
    generalize hg5 : g4 ++ [.cells (stepsC h.length g3.length)] = g5 at G5 ca5 cs5 cb5 H5 T5 l5
    have Ta : ∀ {g g' : AHeap}, Tmp h0 g g' → g5.length ≤ g.length → cellsAt g h.length = some [.ptr d 0] → cellsAt g' h.length = some [.ptr d 0] := fun T hl hc => T.cells hlen0 hc
    -- the five steps
    obtain ⟨e1, D1, l1, k1, x1, H1, T1, n1, o1, p1⟩ := clear_run H5 o
    have s1 := save_step (a := h.length) (s := g3.length) (i := 0) (g' := k1) (e := e1) cb5 rfl (by omega) (fun K => by
      show (S_commit_Save_fn1 (.ptr h.length 0) g5).bind _ = _
      rw [S_commit_Save_fn1_eq]
      rw [ld1_of ca5]
      show ((S_commit_clear (.ptr d 0) g5).bind _).bind _ = _
      rw [x1]; rfl)
    have done : S_commit_Save_0 (.sl 1 g4.length 0 5) 5 0 g5 = S_commit_Save_0 (.sl 1 g4.length 0 5) 5 ((0 : Nat) : Int) g5 := rfl
    have main : Behind h0 g5 d mb l (S_commit_Save_0 (.sl 1 g4.length 0 5) 5 0 g5) fun e D' l' => (e ≠ 0 → fask l' nmN = fask l nmN) ∧ (e = 0 → fask l' nmN = some (manP m, ((manP m).size : Int))) := by
      rw [done, s1]
      by_cases z1 : e1 = 0
      rotate_left
      · exact ⟨e1, D1, l1, k1, by rw [decide_eq_false z1]; rfl, H1, T1, n1, o1, fun _ => p1, fun h => absurd h z1⟩
      rw [decide_eq_true z1, Bool.not_true, cond_false]
      have ca1 : cellsAt k1 h.length = some [.ptr d 0] := T1.cells hlen0 ca5
      have cs1 : cellsAt k1 g3.length = some [.lit (.string (manP m))] := T1.cells (by omega) cs5
      have cb1 : cellsAt k1 g4.length = some (stepsC h.length g3.length) := T1.cells (by omega) cb5
      obtain ⟨e2, D2, l2, k2, x2, H2, T2, n2, o2, p2, q2⟩ := mk_run H1 o1
      rw [save_step (a := h.length) (s := g3.length) (i := 0 + 1) (g' := k2) (e := e2) cb1 rfl (by omega) (fun K => by
        show (S_commit_Save_fn2 (.ptr h.length 0) k1).bind _ = _
        rw [S_commit_Save_fn2_eq, ld1_of ca1]
        show ((S_fs_Disk_Create (.ptr d 0) wyN k1).bind _).bind _ = _
        rw [x2]; rfl)]
      have T12 := T1.trans T2 n1
      by_cases z2 : e2 = 0
      rotate_left
      · exact ⟨e2, D2, l2, k2, by rw [decide_eq_false z2]; rfl, H2, T12, by omega, o2, fun _ => p2.trans p1, fun h => absurd h z2⟩
      rw [decide_eq_true z2, Bool.not_true, cond_false]
      have ca2 : cellsAt k2 h.length = some [.ptr d 0] := T2.cells hlen0 ca1
      have cs2 : cellsAt k2 g3.length = some [.lit (.string (manP m))] := T2.cells (by omega) cs1
      have cb2 : cellsAt k2 g4.length = some (stepsC h.length g3.length) := T2.cells (by omega) cb1
      obtain ⟨e3, D3, l3, k3, x3, H3, T3, n3, o3, p3, q3⟩ := put_run' H2 o2 hpz (q2 z2)
      rw [save_step (a := h.length) (s := g3.length) (i := 0 + 1 + 1) (g' := k3) (e := e3) cb2 rfl (by omega) (fun K => by
        show (S_commit_Save_fn3 (.ptr h.length 0) (.ptr g3.length 0) k2).bind _ = _
        rw [S_commit_Save_fn3_eq, ld1_of ca2]
        show ((ld1 k2 (.ptr g3.length 0)).bind _).bind _ = _
        rw [ld1_of cs2]
        show ((S_fs_Disk_Append (.ptr d 0) wyN (manP m) k2).bind _).bind _ = _
        rw [x3]; rfl)]
      have T123 := T12.trans T3 (by omega)
      by_cases z3 : e3 = 0
      rotate_left
      · exact ⟨e3, D3, l3, k3, by rw [decide_eq_false z3]; rfl, H3, T123, by omega, o3, fun _ => p3.trans (p2.trans p1), fun h => absurd h z3⟩
      rw [decide_eq_true z3, Bool.not_true, cond_false]
      have ca3 : cellsAt k3 h.length = some [.ptr d 0] := T3.cells hlen0 ca2
      have cb3 : cellsAt k3 g4.length = some (stepsC h.length g3.length) := T3.cells (by omega) cb2
      obtain ⟨e4, D4, l4, k4, x4, H4, T4, n4, o4, p4, q4⟩ := keep_run H3 o3 (q3 z3)
      rw [save_step (a := h.length) (s := g3.length) (i := 0 + 1 + 1 + 1) (g' := k4) (e := e4) cb3 rfl (by omega) (fun K => by
        show (S_commit_Save_fn4 (.ptr h.length 0) k3).bind _ = _
        rw [S_commit_Save_fn4_eq, ld1_of ca3]
        show ((S_fs_Disk_Sync (.ptr d 0) wyN k3).bind _).bind _ = _
        rw [x4]; rfl)]
      have T1234 := T123.trans T4 (by omega)
      by_cases z4 : e4 = 0
      rotate_left
      · exact ⟨e4, D4, l4, k4, by rw [decide_eq_false z4]; rfl, H4, T1234, by omega, o4, fun _ => p4.trans (p3.trans (p2.trans p1)), fun h => absurd h z4⟩
      rw [decide_eq_true z4, Bool.not_true, cond_false]
      have ca4' : cellsAt k4 h.length = some [.ptr d 0] := T4.cells hlen0 ca3
      have cb4 : cellsAt k4 g4.length = some (stepsC h.length g3.length) := T4.cells (by omega) cb3
      obtain ⟨e5, D5, l5', k5, x5, H5', T5', n5, o5, p5, q5⟩ := way_run H4 o4 (q4 z4)
      rw [save_step (a := h.length) (s := g3.length) (i := 0 + 1 + 1 + 1 + 1) (g' := k5) (e := e5) cb4 rfl (by omega) (fun K => by
        show (S_commit_Save_fn5 (.ptr h.length 0) k4).bind _ = _
        rw [S_commit_Save_fn5_eq, ld1_of ca4']
        show ((S_fs_Disk_Rename (.ptr d 0) wyN nmN k4).bind _).bind _ = _
        rw [x5]; rfl)]
      have T12345 := T1234.trans T5' (by omega)
      refine ⟨e5, D5, l5', k5, ?_, H5', T12345, by omega, o5, fun z => (p5 z).trans (p4.trans (p3.trans (p2.trans p1))), q5⟩
      by_cases z5 : e5 = 0
      · rw [decide_eq_true z5, Bool.not_true, cond_false, S_commit_Save_0_eq, z5]
        exact cF (decide_eq_false (by omega)) (by rw [S_commit_Save_1_eq])
      · rw [decide_eq_false z5]; rfl
    obtain ⟨e, D', l', k, x, HH, TT, nn, oo, pp, qq⟩ := main
    refine ⟨e, D', l', k, ?_, HH, T5.trans TT (by omega), by omega, oo, pp, fun z => ⟨rfl, qq z⟩⟩
    refine bd rfl (bd (ldn_of (n := 3) (off := 0) cm (by exact Nat.le_refl _)) (bd a3 (bd rfl (bd rfl (bd rfl (bd rfl (bd (st1_of cs rfl (Nat.le_refl _)) (cF rfl ?_))))))))
    show (blitS 1 _ 5 _ ((psh g3 (.cells [.lit (.string { data := #[] })])).set g3.length (.cells [.lit (.string (manP m))]))).bind _ = _
    rw [hg4]
    have hbl : ∀ zs ps, aFill (fun i => some (i * 1, 1)) (List.replicate 5 zs).flatten ps = some (stepsC h.length g3.length) → blitS 1 zs 5 ps g4 = some (.sl 1 g4.length 0 5, g5) := fun zs ps h => by
      unfold blitS
      rw [req_true (by omega), Option.bind_some, h, Option.bind_some, hg5]
    refine bd (hbl _ _ (by rfl)) (bd rfl ?_)
    exact x
end Go.Proofs.Yteclkehnppeobaa.AL
/- The chapter's example, run. -/
namespace Go.Proofs.Yteclkehnppeobaa.AL
set_option linter.unusedVariables false
set_option linter.unusedSimpArgs false
set_option maxRecDepth 100000
open Go
open Go.Proofs.Try
namespace AwCm
def mayC (l : List AVal) : Option Bool := match fileM l with
  | some f => match Nat.ble f.name.size 100 with
    | true => some (mayB f)
    | false => none
  | none => none
theorem mayC_of {l : List AVal} {z : Bool} (h0 : mayC l = some z) (h : AHeap) : ACalls Try.prog 118 [.agg l] h fun e g => e = .ret (.lit (.bool z)) ∧ g = h := by
  unfold mayC at h0
  split at h0
  · rename_i f h1
    split at h0
    · rename_i hn
      cases h0
      have := fileM_some h1
      subst this
      exact may_of (mayO_cells f (Nat.le_trans (Nat.le_of_ble_eq_true hn) (by decide))) h
    · cases h0
  · cases h0
noncomputable def w_manifest_may : XC := .q fun R args h K => match args with
  | [.agg f] => (mayC f).bind fun z => K (.lit (.bool z))
  | _ => none
theorem w_manifest_may_ok : XC.Nat w_manifest_may ∧ XC.Ok Try.prog 118 w_manifest_may := by
  refine ⟨fun R args h K => ?_, tc118, fun args h v hx => ?_⟩
  · dsimp only; split <;> simp [Option.bind_assoc, mkP]
  · dsimp only at hx; split at hx
    · obtain ⟨z, hopt, hx⟩ := Option.bind_eq_some_iff.1 hx
      cases hx
      exact mayC_of hopt _
    · cases hx
noncomputable def yawake20_7 : YRow := { E := { T := tabOf [(3, r3), (4, r4), (9, r9), (25, r25), (26, r26), (29, r29), (31, r31), (50, r50), (85, r85)], C := [], D := [], Ms := [], Ml := [], Mo := [], n := 61 }, cs := [8, 10, 12], fn := f7 }
theorem yawake20_7_ok : YRow.Ok Try.prog 7 yawake20_7 := ⟨rfl, by kernel_rfl, by kernel_rfl, tabOf_ok (⟨r3_ok, ⟨r4_ok, ⟨r9_ok, ⟨r25_ok, ⟨r26_ok, ⟨r29_ok, ⟨r31_ok, ⟨r50_ok, ⟨r85_ok, trivial⟩⟩⟩⟩⟩⟩⟩⟩⟩), (trivial), tc7, (fun j hj => by simp only [yawake20_7, List.mem_cons, List.not_mem_nil, or_false] at hj; rcases hj with rfl | rfl | rfl <;> first | exact tc8 | exact tc10 | exact tc12)⟩
noncomputable def yawake20_8 : YRow := { E := { T := tabOf [(3, r3), (4, r4), (9, r9), (25, r25), (26, r26), (71, r71), (73, r73), (81, r81)], C := [], D := [], Ms := [], Ml := [], Mo := [], n := 14 }, cs := [], fn := f8 }
theorem yawake20_8_ok : YRow.Ok Try.prog 8 yawake20_8 := ⟨rfl, by kernel_rfl, by kernel_rfl, tabOf_ok (⟨r3_ok, ⟨r4_ok, ⟨r9_ok, ⟨r25_ok, ⟨r26_ok, ⟨r71_ok, ⟨r73_ok, ⟨r81_ok, trivial⟩⟩⟩⟩⟩⟩⟩⟩), (trivial), tc8, (fun j hj => by cases hj)⟩
noncomputable def yawake20_10 : YRow := { E := { T := tabOf [(3, r3), (4, r4), (9, r9), (25, r25), (26, r26), (29, r29), (31, r31), (50, r50), (76, r76), (78, r78), (85, r85)], C := [], D := [], Ms := [(12, [])], Ml := [(6, [24, 25, 26])], Mo := [], n := 36 }, cs := [7, 8, 10, 12, 22, 23, 34, 35, 36, 37, 38, 39, 40, 41, 42, 43, 44, 45, 47, 56, 66, 82, 84, 85, 87, 88, 89, 92, 93, 94, 95, 99, 101, 104, 119, 122, 123, 127, 128, 129, 130, 151], fn := f10 }
theorem yawake20_10_ok : YRow.Ok Try.prog 10 yawake20_10 := ⟨rfl, by kernel_rfl, by kernel_rfl, tabOf_ok (⟨r3_ok, ⟨r4_ok, ⟨r9_ok, ⟨r25_ok, ⟨r26_ok, ⟨r29_ok, ⟨r31_ok, ⟨r50_ok, ⟨r76_ok, ⟨r78_ok, ⟨r85_ok, trivial⟩⟩⟩⟩⟩⟩⟩⟩⟩⟩⟩), (trivial), tc10, (fun j hj => by simp only [yawake20_10, List.mem_cons, List.not_mem_nil, or_false] at hj; rcases hj with rfl | rfl | rfl | rfl | rfl | rfl | rfl | rfl | rfl | rfl | rfl | rfl | rfl | rfl | rfl | rfl | rfl | rfl | rfl | rfl | rfl | rfl | rfl | rfl | rfl | rfl | rfl | rfl | rfl | rfl | rfl | rfl | rfl | rfl | rfl | rfl | rfl | rfl | rfl | rfl | rfl | rfl <;> first | exact tc7 | exact tc8 | exact tc10 | exact tc12 | exact tc22 | exact tc23 | exact tc34 | exact tc35 | exact tc36 | exact tc37 | exact tc38 | exact tc39 | exact tc40 | exact tc41 | exact tc42 | exact tc43 | exact tc44 | exact tc45 | exact tc47 | exact tc56 | exact tc66 | exact tc82 | exact tc84 | exact tc85 | exact tc87 | exact tc88 | exact tc89 | exact tc92 | exact tc93 | exact tc94 | exact tc95 | exact tc99 | exact tc101 | exact tc104 | exact tc119 | exact tc122 | exact tc123 | exact tc127 | exact tc128 | exact tc129 | exact tc130 | exact tc151)⟩
noncomputable def yawake20_12 : YRow := { E := { T := tabOf [(3, r3), (4, r4), (9, r9), (25, r25), (26, r26), (29, r29), (31, r31), (50, r50), (85, r85)], C := [], D := [], Ms := [], Ml := [], Mo := [], n := 42 }, cs := [22, 23, 47], fn := f12 }
theorem yawake20_12_ok : YRow.Ok Try.prog 12 yawake20_12 := ⟨rfl, by kernel_rfl, by kernel_rfl, tabOf_ok (⟨r3_ok, ⟨r4_ok, ⟨r9_ok, ⟨r25_ok, ⟨r26_ok, ⟨r29_ok, ⟨r31_ok, ⟨r50_ok, ⟨r85_ok, trivial⟩⟩⟩⟩⟩⟩⟩⟩⟩), (trivial), tc12, (fun j hj => by simp only [yawake20_12, List.mem_cons, List.not_mem_nil, or_false] at hj; rcases hj with rfl | rfl | rfl <;> first | exact tc22 | exact tc23 | exact tc47)⟩
noncomputable def yawake20_22 : YRow := { E := { T := tabOf [(3, r3), (4, r4), (9, r9), (25, r25), (26, r26), (81, r81)], C := [], D := [], Ms := [], Ml := [], Mo := [], n := 18 }, cs := [66], fn := f22 }
theorem yawake20_22_ok : YRow.Ok Try.prog 22 yawake20_22 := ⟨rfl, by kernel_rfl, by kernel_rfl, tabOf_ok (⟨r3_ok, ⟨r4_ok, ⟨r9_ok, ⟨r25_ok, ⟨r26_ok, ⟨r81_ok, trivial⟩⟩⟩⟩⟩⟩), (trivial), tc22, (fun j hj => by obtain rfl := List.mem_singleton.1 hj; exact tc66)⟩
noncomputable def yawake20_23 : YRow := { E := { T := tabOf [(3, r3), (4, r4), (9, r9), (25, r25), (26, r26), (81, r81)], C := [], D := [], Ms := [], Ml := [], Mo := [], n := 48 }, cs := [66], fn := f23 }
theorem yawake20_23_ok : YRow.Ok Try.prog 23 yawake20_23 := ⟨rfl, by kernel_rfl, by kernel_rfl, tabOf_ok (⟨r3_ok, ⟨r4_ok, ⟨r9_ok, ⟨r25_ok, ⟨r26_ok, ⟨r81_ok, trivial⟩⟩⟩⟩⟩⟩), (trivial), tc23, (fun j hj => by obtain rfl := List.mem_singleton.1 hj; exact tc66)⟩
noncomputable def yawake20_34 : YRow := { E := { T := tabOf [(3, r3), (4, r4), (9, r9), (25, r25), (71, r71), (73, r73), (81, r81)], C := [], D := [], Ms := [], Ml := [], Mo := [], n := 11 }, cs := [], fn := f34 }
theorem yawake20_34_ok : YRow.Ok Try.prog 34 yawake20_34 := ⟨rfl, by kernel_rfl, by kernel_rfl, tabOf_ok (⟨r3_ok, ⟨r4_ok, ⟨r9_ok, ⟨r25_ok, ⟨r71_ok, ⟨r73_ok, ⟨r81_ok, trivial⟩⟩⟩⟩⟩⟩⟩), (trivial), tc34, (fun j hj => by cases hj)⟩
noncomputable def yawake20_35 : YRow := { E := { T := tabOf [(3, r3), (4, r4), (5, r5), (9, r9), (29, r29), (31, r31), (50, r50), (85, r85), (120, r120), (121, r121), (123, r123)], C := [(83, w_strings_Builder_WriteString), (86, w_strings_Builder_String)], D := [], Ms := [(17, [4])], Ml := [(9, [4, 28, 29, 30])], Mo := [], n := 60 }, cs := [82, 84, 85], fn := f35 }
theorem yawake20_35_ok : YRow.Ok Try.prog 35 yawake20_35 := ⟨rfl, by kernel_rfl, by kernel_rfl, tabOf_ok (⟨r3_ok, ⟨r4_ok, ⟨r5_ok, ⟨r9_ok, ⟨r29_ok, ⟨r31_ok, ⟨r50_ok, ⟨r85_ok, ⟨r120_ok, ⟨r121_ok, ⟨r123_ok, trivial⟩⟩⟩⟩⟩⟩⟩⟩⟩⟩⟩), (⟨w_strings_Builder_WriteString_ok, ⟨w_strings_Builder_String_ok, trivial⟩⟩), tc35, (fun j hj => by simp only [yawake20_35, List.mem_cons, List.not_mem_nil, or_false] at hj; rcases hj with rfl | rfl | rfl <;> first | exact tc82 | exact tc84 | exact tc85)⟩
noncomputable def yawake20_36 : YRow := { E := { T := tabOf [(25, r25), (26, r26)], C := [], D := [], Ms := [], Ml := [], Mo := [], n := 4 }, cs := [37], fn := f36 }
theorem yawake20_36_ok : YRow.Ok Try.prog 36 yawake20_36 := ⟨rfl, by kernel_rfl, by kernel_rfl, tabOf_ok (⟨r25_ok, ⟨r26_ok, trivial⟩⟩), (trivial), tc36, (fun j hj => by obtain rfl := List.mem_singleton.1 hj; exact tc37)⟩
noncomputable def yawake20_37 : YRow := { E := { T := tabOf [(3, r3), (4, r4), (9, r9), (25, r25), (26, r26)], C := [], D := [], Ms := [], Ml := [], Mo := [], n := 18 }, cs := [22, 87], fn := f37 }
theorem yawake20_37_ok : YRow.Ok Try.prog 37 yawake20_37 := ⟨rfl, by kernel_rfl, by kernel_rfl, tabOf_ok (⟨r3_ok, ⟨r4_ok, ⟨r9_ok, ⟨r25_ok, ⟨r26_ok, trivial⟩⟩⟩⟩⟩), (trivial), tc37, (fun j hj => by simp only [yawake20_37, List.mem_cons, List.not_mem_nil, or_false] at hj; rcases hj with rfl | rfl <;> first | exact tc22 | exact tc87)⟩
noncomputable def yawake20_38 : YRow := { E := { T := tabOf [(9, r9), (25, r25), (26, r26)], C := [], D := [], Ms := [], Ml := [], Mo := [], n := 4 }, cs := [39], fn := f38 }
theorem yawake20_38_ok : YRow.Ok Try.prog 38 yawake20_38 := ⟨rfl, by kernel_rfl, by kernel_rfl, tabOf_ok (⟨r9_ok, ⟨r25_ok, ⟨r26_ok, trivial⟩⟩⟩), (trivial), tc38, (fun j hj => by obtain rfl := List.mem_singleton.1 hj; exact tc39)⟩
noncomputable def yawake20_39 : YRow := { E := { T := tabOf [(3, r3), (4, r4), (9, r9), (25, r25), (26, r26), (71, r71), (73, r73), (81, r81)], C := [], D := [], Ms := [], Ml := [], Mo := [], n := 30 }, cs := [66], fn := f39 }
theorem yawake20_39_ok : YRow.Ok Try.prog 39 yawake20_39 := ⟨rfl, by kernel_rfl, by kernel_rfl, tabOf_ok (⟨r3_ok, ⟨r4_ok, ⟨r9_ok, ⟨r25_ok, ⟨r26_ok, ⟨r71_ok, ⟨r73_ok, ⟨r81_ok, trivial⟩⟩⟩⟩⟩⟩⟩⟩), (trivial), tc39, (fun j hj => by obtain rfl := List.mem_singleton.1 hj; exact tc66)⟩
noncomputable def yawake20_40 : YRow := { E := { T := tabOf [(9, r9), (25, r25), (26, r26)], C := [], D := [], Ms := [], Ml := [], Mo := [], n := 6 }, cs := [41], fn := f40 }
theorem yawake20_40_ok : YRow.Ok Try.prog 40 yawake20_40 := ⟨rfl, by kernel_rfl, by kernel_rfl, tabOf_ok (⟨r9_ok, ⟨r25_ok, ⟨r26_ok, trivial⟩⟩⟩), (trivial), tc40, (fun j hj => by obtain rfl := List.mem_singleton.1 hj; exact tc41)⟩
noncomputable def yawake20_41 : YRow := { E := { T := tabOf [(3, r3), (4, r4), (9, r9), (25, r25), (26, r26), (71, r71), (73, r73), (81, r81)], C := [], D := [(4, ⟨[], [0, 1, 2, 3, 4, 5, 6, 7, 8, 9, 10, 11, 12], [], [], [], [], []⟩), (7, ⟨[], [0, 1, 2, 3, 4, 5], [6], [], [], [], []⟩)], Ms := [], Ml := [], Mo := [], n := 52 }, cs := [66], fn := f41 }
theorem yawake20_41_ok : YRow.Ok Try.prog 41 yawake20_41 := ⟨rfl, by kernel_rfl, by kernel_rfl, tabOf_ok (⟨r3_ok, ⟨r4_ok, ⟨r9_ok, ⟨r25_ok, ⟨r26_ok, ⟨r71_ok, ⟨r73_ok, ⟨r81_ok, trivial⟩⟩⟩⟩⟩⟩⟩⟩), (trivial), tc41, (fun j hj => by obtain rfl := List.mem_singleton.1 hj; exact tc66)⟩
noncomputable def yawake20_42 : YRow := { E := { T := tabOf [(9, r9), (25, r25), (26, r26)], C := [], D := [], Ms := [], Ml := [], Mo := [], n := 4 }, cs := [43], fn := f42 }
theorem yawake20_42_ok : YRow.Ok Try.prog 42 yawake20_42 := ⟨rfl, by kernel_rfl, by kernel_rfl, tabOf_ok (⟨r9_ok, ⟨r25_ok, ⟨r26_ok, trivial⟩⟩⟩), (trivial), tc42, (fun j hj => by obtain rfl := List.mem_singleton.1 hj; exact tc43)⟩
noncomputable def yawake20_43 : YRow := { E := { T := tabOf [(3, r3), (4, r4), (9, r9), (25, r25), (26, r26), (71, r71), (73, r73), (81, r81)], C := [], D := [(4, ⟨[], [0, 1, 2, 3, 4, 5], [6], [], [], [], []⟩)], Ms := [(5, [6])], Ml := [], Mo := [], n := 26 }, cs := [66], fn := f43 }
theorem yawake20_43_ok : YRow.Ok Try.prog 43 yawake20_43 := ⟨rfl, by kernel_rfl, by kernel_rfl, tabOf_ok (⟨r3_ok, ⟨r4_ok, ⟨r9_ok, ⟨r25_ok, ⟨r26_ok, ⟨r71_ok, ⟨r73_ok, ⟨r81_ok, trivial⟩⟩⟩⟩⟩⟩⟩⟩), (trivial), tc43, (fun j hj => by obtain rfl := List.mem_singleton.1 hj; exact tc66)⟩
noncomputable def yawake20_44 : YRow := { E := { T := tabOf [(9, r9), (25, r25), (26, r26)], C := [], D := [], Ms := [], Ml := [], Mo := [], n := 4 }, cs := [45], fn := f44 }
theorem yawake20_44_ok : YRow.Ok Try.prog 44 yawake20_44 := ⟨rfl, by kernel_rfl, by kernel_rfl, tabOf_ok (⟨r9_ok, ⟨r25_ok, ⟨r26_ok, trivial⟩⟩⟩), (trivial), tc44, (fun j hj => by obtain rfl := List.mem_singleton.1 hj; exact tc45)⟩
noncomputable def yawake20_45 : YRow := { E := { T := tabOf [(3, r3), (4, r4), (9, r9), (25, r25), (26, r26), (71, r71), (73, r73), (81, r81)], C := [], D := [(6, ⟨[], [0, 1, 2, 3, 4, 5], [6], [], [], [], []⟩), (7, ⟨[], [0, 1, 2, 3, 4, 5, 6, 7, 8, 9], [10], [], [], [], []⟩)], Ms := [], Ml := [], Mo := [], n := 47 }, cs := [66, 88, 89], fn := f45 }
theorem yawake20_45_ok : YRow.Ok Try.prog 45 yawake20_45 := ⟨rfl, by kernel_rfl, by kernel_rfl, tabOf_ok (⟨r3_ok, ⟨r4_ok, ⟨r9_ok, ⟨r25_ok, ⟨r26_ok, ⟨r71_ok, ⟨r73_ok, ⟨r81_ok, trivial⟩⟩⟩⟩⟩⟩⟩⟩), (trivial), tc45, (fun j hj => by simp only [yawake20_45, List.mem_cons, List.not_mem_nil, or_false] at hj; rcases hj with rfl | rfl | rfl <;> first | exact tc66 | exact tc88 | exact tc89)⟩
noncomputable def yawake20_47 : YRow := { E := { T := tabOf [(3, r3), (4, r4), (9, r9), (29, r29), (31, r31), (50, r50), (85, r85), (137, r137), (139, r139), (141, r141)], C := [], D := [(9, ⟨[], [], [], [], [], [0, 1, 2], [(3, [0, 1]), (4, [0, 1]), (5, []), (6, []), (7, [])]⟩)], Ms := [(10, [2, 6, 7])], Ml := [(7, [2, 6, 7, 8])], Mo := [], n := 71 }, cs := [82, 92, 93, 94, 95], fn := f47 }
theorem yawake20_47_ok : YRow.Ok Try.prog 47 yawake20_47 := ⟨rfl, by kernel_rfl, by kernel_rfl, tabOf_ok (⟨r3_ok, ⟨r4_ok, ⟨r9_ok, ⟨r29_ok, ⟨r31_ok, ⟨r50_ok, ⟨r85_ok, ⟨r137_ok, ⟨r139_ok, ⟨r141_ok, trivial⟩⟩⟩⟩⟩⟩⟩⟩⟩⟩), (trivial), tc47, (fun j hj => by simp only [yawake20_47, List.mem_cons, List.not_mem_nil, or_false] at hj; rcases hj with rfl | rfl | rfl | rfl | rfl <;> first | exact tc82 | exact tc92 | exact tc93 | exact tc94 | exact tc95)⟩
noncomputable def yawake20_56 : YRow := { E := { T := tabOf [(3, r3), (5, r5), (9, r9), (50, r50), (121, r121)], C := [], D := [], Ms := [(9, [5])], Ml := [(3, [5, 11, 12, 13])], Mo := [], n := 34 }, cs := [99], fn := f56 }
theorem yawake20_56_ok : YRow.Ok Try.prog 56 yawake20_56 := ⟨rfl, by kernel_rfl, by kernel_rfl, tabOf_ok (⟨r3_ok, ⟨r5_ok, ⟨r9_ok, ⟨r50_ok, ⟨r121_ok, trivial⟩⟩⟩⟩⟩), (trivial), tc56, (fun j hj => by obtain rfl := List.mem_singleton.1 hj; exact tc99)⟩
noncomputable def yawake20_66 : YRow := { E := { T := tabOf [(3, r3), (4, r4), (9, r9), (25, r25), (26, r26), (71, r71), (73, r73), (81, r81)], C := [], D := [], Ms := [], Ml := [], Mo := [], n := 35 }, cs := [88, 104], fn := f66 }
theorem yawake20_66_ok : YRow.Ok Try.prog 66 yawake20_66 := ⟨rfl, by kernel_rfl, by kernel_rfl, tabOf_ok (⟨r3_ok, ⟨r4_ok, ⟨r9_ok, ⟨r25_ok, ⟨r26_ok, ⟨r71_ok, ⟨r73_ok, ⟨r81_ok, trivial⟩⟩⟩⟩⟩⟩⟩⟩), (trivial), tc66, (fun j hj => by simp only [yawake20_66, List.mem_cons, List.not_mem_nil, or_false] at hj; rcases hj with rfl | rfl <;> first | exact tc88 | exact tc104)⟩
noncomputable def yawake20_82 : YRow := { E := { T := tabOf [(3, r3), (4, r4), (9, r9), (29, r29), (31, r31), (50, r50), (85, r85), (161, r161)], C := [(118, w_manifest_may), (120, w_manifest_named)], D := [(6, ⟨[], [0, 1, 2, 3, 4, 5, 6, 7, 8, 9, 10], [11, 12], [], [], [], []⟩)], Ms := [(7, [1, 30, 31, 32, 49]), (9, [])], Ml := [(4, [1, 30, 31, 32])], Mo := [], n := 51 }, cs := [119], fn := f82 }
theorem yawake20_82_ok : YRow.Ok Try.prog 82 yawake20_82 := ⟨rfl, by kernel_rfl, by kernel_rfl, tabOf_ok (⟨r3_ok, ⟨r4_ok, ⟨r9_ok, ⟨r29_ok, ⟨r31_ok, ⟨r50_ok, ⟨r85_ok, ⟨r161_ok, trivial⟩⟩⟩⟩⟩⟩⟩⟩), (⟨w_manifest_may_ok, ⟨w_manifest_named_ok, trivial⟩⟩), tc82, (fun j hj => by obtain rfl := List.mem_singleton.1 hj; exact tc119)⟩
noncomputable def yawake20_84 : YRow := { E := { T := tabOf [(3, r3), (4, r4), (9, r9), (120, r120)], C := [(83, w_strings_Builder_WriteString)], D := [], Ms := [], Ml := [], Mo := [], n := 17 }, cs := [101], fn := f84 }
theorem yawake20_84_ok : YRow.Ok Try.prog 84 yawake20_84 := ⟨rfl, by kernel_rfl, by kernel_rfl, tabOf_ok (⟨r3_ok, ⟨r4_ok, ⟨r9_ok, ⟨r120_ok, trivial⟩⟩⟩⟩), (⟨w_strings_Builder_WriteString_ok, trivial⟩), tc84, (fun j hj => by obtain rfl := List.mem_singleton.1 hj; exact tc101)⟩
noncomputable def yawake20_85 : YRow := { E := { T := tabOf [(3, r3), (5, r5), (9, r9), (50, r50), (121, r121), (164, r164)], C := [], D := [], Ms := [(8, [0, 3])], Ml := [(4, [0, 3, 4, 8])], Mo := [], n := 23 }, cs := [122], fn := f85 }
theorem yawake20_85_ok : YRow.Ok Try.prog 85 yawake20_85 := ⟨rfl, by kernel_rfl, by kernel_rfl, tabOf_ok (⟨r3_ok, ⟨r5_ok, ⟨r9_ok, ⟨r50_ok, ⟨r121_ok, ⟨r164_ok, trivial⟩⟩⟩⟩⟩⟩), (trivial), tc85, (fun j hj => by obtain rfl := List.mem_singleton.1 hj; exact tc122)⟩
noncomputable def yawake20_87 : YRow := { E := { T := tabOf [(3, r3), (4, r4), (9, r9), (25, r25), (26, r26), (81, r81)], C := [], D := [], Ms := [(4, [6])], Ml := [], Mo := [], n := 19 }, cs := [66, 89], fn := f87 }
theorem yawake20_87_ok : YRow.Ok Try.prog 87 yawake20_87 := ⟨rfl, by kernel_rfl, by kernel_rfl, tabOf_ok (⟨r3_ok, ⟨r4_ok, ⟨r9_ok, ⟨r25_ok, ⟨r26_ok, ⟨r81_ok, trivial⟩⟩⟩⟩⟩⟩), (trivial), tc87, (fun j hj => by simp only [yawake20_87, List.mem_cons, List.not_mem_nil, or_false] at hj; rcases hj with rfl | rfl <;> first | exact tc66 | exact tc89)⟩
noncomputable def yawake20_88 : YRow := { E := { T := tabOf [(3, r3), (4, r4), (5, r5), (9, r9), (121, r121)], C := [], D := [], Ms := [(7, [0])], Ml := [(2, [0, 6, 7, 8])], Mo := [], n := 23 }, cs := [123], fn := f88 }
theorem yawake20_88_ok : YRow.Ok Try.prog 88 yawake20_88 := ⟨rfl, by kernel_rfl, by kernel_rfl, tabOf_ok (⟨r3_ok, ⟨r4_ok, ⟨r5_ok, ⟨r9_ok, ⟨r121_ok, trivial⟩⟩⟩⟩⟩), (trivial), tc88, (fun j hj => by obtain rfl := List.mem_singleton.1 hj; exact tc123)⟩
noncomputable def yawake20_89 : YRow := { E := { T := tabOf [(3, r3), (4, r4), (9, r9), (25, r25), (71, r71), (73, r73), (81, r81)], C := [], D := [(0, ⟨[], [0, 1, 2, 3, 4, 5, 6, 7, 8, 9, 10, 11, 12, 13, 14], [15], [], [], [], []⟩)], Ms := [], Ml := [], Mo := [], n := 24 }, cs := [], fn := f89 }
theorem yawake20_89_ok : YRow.Ok Try.prog 89 yawake20_89 := ⟨rfl, by kernel_rfl, by kernel_rfl, tabOf_ok (⟨r3_ok, ⟨r4_ok, ⟨r9_ok, ⟨r25_ok, ⟨r71_ok, ⟨r73_ok, ⟨r81_ok, trivial⟩⟩⟩⟩⟩⟩⟩), (trivial), tc89, (fun j hj => by cases hj)⟩
noncomputable def yawake20_92 : YRow := { E := { T := tabOf [(3, r3), (4, r4), (9, r9)], C := [], D := [], Ms := [], Ml := [], Mo := [], n := 21 }, cs := [85], fn := f92 }
theorem yawake20_92_ok : YRow.Ok Try.prog 92 yawake20_92 := ⟨rfl, by kernel_rfl, by kernel_rfl, tabOf_ok (⟨r3_ok, ⟨r4_ok, ⟨r9_ok, trivial⟩⟩⟩), (trivial), tc92, (fun j hj => by obtain rfl := List.mem_singleton.1 hj; exact tc85)⟩
noncomputable def yawake20_93 : YRow := { E := { T := tabOf [(4, r4), (9, r9)], C := [], D := [], Ms := [], Ml := [], Mo := [], n := 8 }, cs := [127], fn := f93 }
theorem yawake20_93_ok : YRow.Ok Try.prog 93 yawake20_93 := ⟨rfl, by kernel_rfl, by kernel_rfl, tabOf_ok (⟨r4_ok, ⟨r9_ok, trivial⟩⟩), (trivial), tc93, (fun j hj => by obtain rfl := List.mem_singleton.1 hj; exact tc127)⟩
noncomputable def yawake20_94 : YRow := { E := { T := tabOf [(3, r3), (4, r4), (9, r9), (137, r137), (139, r139), (141, r141)], C := [], D := [], Ms := [], Ml := [], Mo := [], n := 39 }, cs := [128, 129], fn := f94 }
theorem yawake20_94_ok : YRow.Ok Try.prog 94 yawake20_94 := ⟨rfl, by kernel_rfl, by kernel_rfl, tabOf_ok (⟨r3_ok, ⟨r4_ok, ⟨r9_ok, ⟨r137_ok, ⟨r139_ok, ⟨r141_ok, trivial⟩⟩⟩⟩⟩⟩), (trivial), tc94, (fun j hj => by simp only [yawake20_94, List.mem_cons, List.not_mem_nil, or_false] at hj; rcases hj with rfl | rfl <;> first | exact tc128 | exact tc129)⟩
noncomputable def yawake20_95 : YRow := { E := { T := tabOf [(3, r3), (9, r9), (50, r50), (85, r85), (137, r137)], C := [], D := [], Ms := [], Ml := [], Mo := [], n := 21 }, cs := [94, 130], fn := f95 }
theorem yawake20_95_ok : YRow.Ok Try.prog 95 yawake20_95 := ⟨rfl, by kernel_rfl, by kernel_rfl, tabOf_ok (⟨r3_ok, ⟨r9_ok, ⟨r50_ok, ⟨r85_ok, ⟨r137_ok, trivial⟩⟩⟩⟩⟩), (trivial), tc95, (fun j hj => by simp only [yawake20_95, List.mem_cons, List.not_mem_nil, or_false] at hj; rcases hj with rfl | rfl <;> first | exact tc94 | exact tc130)⟩
noncomputable def yawake20_99 : YRow := { E := { T := tabOf [(50, r50), (170, r170)], C := [], D := [], Ms := [], Ml := [], Mo := [], n := 9 }, cs := [], fn := f99 }
theorem yawake20_99_ok : YRow.Ok Try.prog 99 yawake20_99 := ⟨rfl, by kernel_rfl, by kernel_rfl, tabOf_ok (⟨r50_ok, ⟨r170_ok, trivial⟩⟩), (trivial), tc99, (fun j hj => by cases hj)⟩
noncomputable def yawake20_101 : YRow := { E := { T := tabOf [(3, r3), (4, r4), (5, r5), (9, r9), (121, r121), (173, r173)], C := [], D := [], Ms := [(9, [1, 6]), (15, [1, 6])], Ml := [(5, [0, 1, 6, 7]), (10, [1, 6, 32, 33, 34])], Mo := [], n := 45 }, cs := [], fn := f101 }
theorem yawake20_101_ok : YRow.Ok Try.prog 101 yawake20_101 := ⟨rfl, by kernel_rfl, by kernel_rfl, tabOf_ok (⟨r3_ok, ⟨r4_ok, ⟨r5_ok, ⟨r9_ok, ⟨r121_ok, ⟨r173_ok, trivial⟩⟩⟩⟩⟩⟩), (trivial), tc101, (fun j hj => by cases hj)⟩
noncomputable def yawake20_104 : YRow := { E := { T := tabOf [(3, r3), (4, r4), (9, r9), (25, r25), (26, r26), (71, r71), (73, r73), (81, r81)], C := [], D := [], Ms := [(7, [0])], Ml := [], Mo := [], n := 49 }, cs := [34], fn := f104 }
theorem yawake20_104_ok : YRow.Ok Try.prog 104 yawake20_104 := ⟨rfl, by kernel_rfl, by kernel_rfl, tabOf_ok (⟨r3_ok, ⟨r4_ok, ⟨r9_ok, ⟨r25_ok, ⟨r26_ok, ⟨r71_ok, ⟨r73_ok, ⟨r81_ok, trivial⟩⟩⟩⟩⟩⟩⟩⟩), (trivial), tc104, (fun j hj => by obtain rfl := List.mem_singleton.1 hj; exact tc34)⟩
noncomputable def yawake20_119 : YRow := { E := { T := tabOf [(3, r3), (4, r4), (9, r9), (29, r29), (50, r50), (85, r85), (161, r161)], C := [], D := [], Ms := [], Ml := [], Mo := [], n := 9 }, cs := [151], fn := f119 }
theorem yawake20_119_ok : YRow.Ok Try.prog 119 yawake20_119 := ⟨rfl, by kernel_rfl, by kernel_rfl, tabOf_ok (⟨r3_ok, ⟨r4_ok, ⟨r9_ok, ⟨r29_ok, ⟨r50_ok, ⟨r85_ok, ⟨r161_ok, trivial⟩⟩⟩⟩⟩⟩⟩), (trivial), tc119, (fun j hj => by obtain rfl := List.mem_singleton.1 hj; exact tc151)⟩
noncomputable def yawake20_122 : YRow := { E := { T := tabOf [(9, r9), (50, r50)], C := [], D := [], Ms := [], Ml := [], Mo := [], n := 5 }, cs := [56], fn := f122 }
theorem yawake20_122_ok : YRow.Ok Try.prog 122 yawake20_122 := ⟨rfl, by kernel_rfl, by kernel_rfl, tabOf_ok (⟨r9_ok, ⟨r50_ok, trivial⟩⟩), (trivial), tc122, (fun j hj => by obtain rfl := List.mem_singleton.1 hj; exact tc56)⟩
noncomputable def yawake20_123 : YRow := { E := { T := tabOf [(4, r4), (5, r5)], C := [], D := [], Ms := [], Ml := [], Mo := [], n := 21 }, cs := [], fn := f123 }
theorem yawake20_123_ok : YRow.Ok Try.prog 123 yawake20_123 := ⟨rfl, by kernel_rfl, by kernel_rfl, tabOf_ok (⟨r4_ok, ⟨r5_ok, trivial⟩⟩), (trivial), tc123, (fun j hj => by cases hj)⟩
noncomputable def yawake20_127 : YRow := { E := { T := tabOf [(3, r3), (4, r4), (9, r9)], C := [], D := [], Ms := [], Ml := [], Mo := [], n := 18 }, cs := [], fn := f127 }
theorem yawake20_127_ok : YRow.Ok Try.prog 127 yawake20_127 := ⟨rfl, by kernel_rfl, by kernel_rfl, tabOf_ok (⟨r3_ok, ⟨r4_ok, ⟨r9_ok, trivial⟩⟩⟩), (trivial), tc127, (fun j hj => by cases hj)⟩
noncomputable def yawake20_128 : YRow := { E := { T := tabOf [(3, r3), (4, r4), (9, r9), (139, r139), (193, r193)], C := [], D := [], Ms := [], Ml := [], Mo := [], n := 30 }, cs := [], fn := f128 }
theorem yawake20_128_ok : YRow.Ok Try.prog 128 yawake20_128 := ⟨rfl, by kernel_rfl, by kernel_rfl, tabOf_ok (⟨r3_ok, ⟨r4_ok, ⟨r9_ok, ⟨r139_ok, ⟨r193_ok, trivial⟩⟩⟩⟩⟩), (trivial), tc128, (fun j hj => by cases hj)⟩
noncomputable def yawake20_129 : YRow := { E := { T := tabOf [(3, r3), (4, r4), (5, r5), (9, r9), (121, r121), (187, r187)], C := [], D := [], Ms := [(9, [8])], Ml := [(5, [8, 35, 36, 37])], Mo := [], n := 52 }, cs := [], fn := f129 }
theorem yawake20_129_ok : YRow.Ok Try.prog 129 yawake20_129 := ⟨rfl, by kernel_rfl, by kernel_rfl, tabOf_ok (⟨r3_ok, ⟨r4_ok, ⟨r5_ok, ⟨r9_ok, ⟨r121_ok, ⟨r187_ok, trivial⟩⟩⟩⟩⟩⟩), (trivial), tc129, (fun j hj => by cases hj)⟩
noncomputable def yawake20_130 : YRow := { E := { T := tabOf [(3, r3), (4, r4), (9, r9), (137, r137), (139, r139), (141, r141)], C := [], D := [], Ms := [], Ml := [], Mo := [], n := 27 }, cs := [128], fn := f130 }
theorem yawake20_130_ok : YRow.Ok Try.prog 130 yawake20_130 := ⟨rfl, by kernel_rfl, by kernel_rfl, tabOf_ok (⟨r3_ok, ⟨r4_ok, ⟨r9_ok, ⟨r137_ok, ⟨r139_ok, ⟨r141_ok, trivial⟩⟩⟩⟩⟩⟩), (trivial), tc130, (fun j hj => by obtain rfl := List.mem_singleton.1 hj; exact tc128)⟩
noncomputable def yawake20_151 : YRow := { E := { T := tabOf [(3, r3), (4, r4), (9, r9), (29, r29), (50, r50), (85, r85), (161, r161)], C := [], D := [], Ms := [(7, [])], Ml := [(2, [0, 1, 7, 8])], Mo := [], n := 19 }, cs := [7, 8, 10, 12, 22, 23, 34, 35, 36, 37, 38, 39, 40, 41, 42, 43, 44, 45, 47, 56, 66, 82, 84, 85, 87, 88, 89, 92, 93, 94, 95, 99, 101, 104, 119, 122, 123, 127, 128, 129, 130, 151], fn := f151 }
theorem yawake20_151_ok : YRow.Ok Try.prog 151 yawake20_151 := ⟨rfl, by kernel_rfl, by kernel_rfl, tabOf_ok (⟨r3_ok, ⟨r4_ok, ⟨r9_ok, ⟨r29_ok, ⟨r50_ok, ⟨r85_ok, ⟨r161_ok, trivial⟩⟩⟩⟩⟩⟩⟩), (trivial), tc151, (fun j hj => by simp only [yawake20_151, List.mem_cons, List.not_mem_nil, or_false] at hj; rcases hj with rfl | rfl | rfl | rfl | rfl | rfl | rfl | rfl | rfl | rfl | rfl | rfl | rfl | rfl | rfl | rfl | rfl | rfl | rfl | rfl | rfl | rfl | rfl | rfl | rfl | rfl | rfl | rfl | rfl | rfl | rfl | rfl | rfl | rfl | rfl | rfl | rfl | rfl | rfl | rfl | rfl | rfl <;> first | exact tc7 | exact tc8 | exact tc10 | exact tc12 | exact tc22 | exact tc23 | exact tc34 | exact tc35 | exact tc36 | exact tc37 | exact tc38 | exact tc39 | exact tc40 | exact tc41 | exact tc42 | exact tc43 | exact tc44 | exact tc45 | exact tc47 | exact tc56 | exact tc66 | exact tc82 | exact tc84 | exact tc85 | exact tc87 | exact tc88 | exact tc89 | exact tc92 | exact tc93 | exact tc94 | exact tc95 | exact tc99 | exact tc101 | exact tc104 | exact tc119 | exact tc122 | exact tc123 | exact tc127 | exact tc128 | exact tc129 | exact tc130 | exact tc151)⟩
noncomputable def yawake20 : List (Nat × YRow) := [(7, yawake20_7), (8, yawake20_8), (10, yawake20_10), (12, yawake20_12), (22, yawake20_22), (23, yawake20_23), (34, yawake20_34), (35, yawake20_35), (36, yawake20_36), (37, yawake20_37), (38, yawake20_38), (39, yawake20_39), (40, yawake20_40), (41, yawake20_41), (42, yawake20_42), (43, yawake20_43), (44, yawake20_44), (45, yawake20_45), (47, yawake20_47), (56, yawake20_56), (66, yawake20_66), (82, yawake20_82), (84, yawake20_84), (85, yawake20_85), (87, yawake20_87), (88, yawake20_88), (89, yawake20_89), (92, yawake20_92), (93, yawake20_93), (94, yawake20_94), (95, yawake20_95), (99, yawake20_99), (101, yawake20_101), (104, yawake20_104), (119, yawake20_119), (122, yawake20_122), (123, yawake20_123), (127, yawake20_127), (128, yawake20_128), (129, yawake20_129), (130, yawake20_130), (151, yawake20_151)]
theorem yawake20_ok : YOk Try.prog yawake20 := ⟨yawake20_7_ok, ⟨yawake20_8_ok, ⟨yawake20_10_ok, ⟨yawake20_12_ok, ⟨yawake20_22_ok, ⟨yawake20_23_ok, ⟨yawake20_34_ok, ⟨yawake20_35_ok, ⟨yawake20_36_ok, ⟨yawake20_37_ok, ⟨yawake20_38_ok, ⟨yawake20_39_ok, ⟨yawake20_40_ok, ⟨yawake20_41_ok, ⟨yawake20_42_ok, ⟨yawake20_43_ok, ⟨yawake20_44_ok, ⟨yawake20_45_ok, ⟨yawake20_47_ok, ⟨yawake20_56_ok, ⟨yawake20_66_ok, ⟨yawake20_82_ok, ⟨yawake20_84_ok, ⟨yawake20_85_ok, ⟨yawake20_87_ok, ⟨yawake20_88_ok, ⟨yawake20_89_ok, ⟨yawake20_92_ok, ⟨yawake20_93_ok, ⟨yawake20_94_ok, ⟨yawake20_95_ok, ⟨yawake20_99_ok, ⟨yawake20_101_ok, ⟨yawake20_104_ok, ⟨yawake20_119_ok, ⟨yawake20_122_ok, ⟨yawake20_123_ok, ⟨yawake20_127_ok, ⟨yawake20_128_ok, ⟨yawake20_129_ok, ⟨yawake20_130_ok, ⟨yawake20_151_ok, trivial⟩⟩⟩⟩⟩⟩⟩⟩⟩⟩⟩⟩⟩⟩⟩⟩⟩⟩⟩⟩⟩⟩⟩⟩⟩⟩⟩⟩⟩⟩⟩⟩⟩⟩⟩⟩⟩⟩⟩⟩⟩⟩
theorem awake20_run (h : AHeap) : ACalls Try.prog 7 [] h fun e h' => e = .ret (.lit (.bool true)) ∧ h' = h := acalls_lit (yrun_true yawake20_ok tmix (m := 100000) (k := 60) tc7 (by kernel_rfl)) h
end AwCm
end Go.Proofs.Yteclkehnppeobaa.AL
/- What a call makes may be let go, where its answer names none of it. -/
namespace Go.Proofs.Yteclkehnppeobaa.AL
set_option linter.unusedVariables false
set_option linter.unusedSimpArgs false
set_option maxRecDepth 100000
open Go
theorem grow_app {h h' : AHeap} (G : Grow h h') : h' = h ++ h'.drop h.length := by
  apply List.ext_getElem?
  intro i
  rcases Nat.lt_or_ge i h.length with hi | hi
  · rw [List.getElem?_append_left hi]; exact Keep.get G i hi (fun h => by cases h)
  · rw [List.getElem?_append_right hi, List.getElem?_drop]; congr 1; omega
theorem goneEnds {h h' : AHeap} {v : AVal} (G : Grow h h') (hc : v.closed = true) (hok : HOk h) (_ : h.length ≤ h'.length) : ABody.AEnds h h' (.ret v) fun e g => e = .ret v ∧ g = h := by
  rw [grow_app G]
  exact ends_same (L := h'.drop h.length) hok hc ⟨rfl, rfl⟩
noncomputable def goneR (x : Option (AVal × AHeap)) (h : AHeap) : Option AVal := x.bind fun r => (reqC (Grow h r.2 ∧ r.1.closed = true)).bind fun _ => some r.1
theorem goneR_some {x : Option (AVal × AHeap)} {h : AHeap} {v : AVal} (hx : goneR x h = some v) : ∃ h', x = some (v, h') ∧ Grow h h' ∧ v.closed = true := by
  unfold goneR at hx
  obtain ⟨r, h1, hx⟩ := Option.bind_eq_some_iff.1 hx
  obtain ⟨u, h2, hx⟩ := Option.bind_eq_some_iff.1 hx
  cases hx
  obtain ⟨h3, h4⟩ := reqC_some h2
  exact ⟨r.2, h1, h3, h4⟩
theorem goneR_of {x : Option (AVal × AHeap)} {h h' : AHeap} {v : AVal} (hx : x = some (v, h')) (G : Grow h h') (hc : v.closed = true) : goneR x h = some v := by
  unfold goneR
  rw [hx, Option.bind_some, reqC_true ⟨G, hc⟩]; rfl
end Go.Proofs.Yteclkehnppeobaa.AL
