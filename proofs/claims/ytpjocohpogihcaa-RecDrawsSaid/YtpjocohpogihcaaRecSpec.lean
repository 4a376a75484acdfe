/- Records, as they are met: what is written, what is read. -/
import Derived.Test.YtpjocohpogihcaaTx
import Derived.Test.YtpjocohpogihcaaRefGet
namespace Go.Proofs.Ytpjocohpogihcaa.AL
set_option linter.unusedVariables false
set_option linter.unusedSimpArgs false
set_option maxRecDepth 100000
open Go
open Go.Proofs.Try

def as2 (xs : List AVal) : Option (Int × Int) := match xs with
  | [.lit (.int .i64 x), .lit (.int .i64 y)] => some (x, y)
  | _ => none
theorem as2_some {xs : List AVal} {r : Int × Int} (h : as2 xs = some r) : xs = [.lit (.int .i64 r.1), .lit (.int .i64 r.2)] := by
  unfold as2 at h; split at h <;> cases h; rfl
def asEdge (xs : List AVal) : Option (Int × Int × Int × Bool) := match xs with
  | [.lit (.int .i64 x), .lit (.int .i64 y), .lit (.int .i64 z), .lit (.bool b)] => some (x, y, z, b)
  | _ => none
theorem asEdge_some {xs : List AVal} {r : Int × Int × Int × Bool} (h : asEdge xs = some r) : xs = [.lit (.int .i64 r.1), .lit (.int .i64 r.2.1), .lit (.int .i64 r.2.2.1), .lit (.bool r.2.2.2)] := by
  unfold asEdge at h; split at h <;> cases h; rfl
noncomputable def w_rec_PutCell : XC := .p fun R args K => match args with
  | [.agg a, .lit (.int .i64 n)] => (req (n < 9223372036854775808)).bind fun _ => (as2 a).bind fun r => K (.tup [(.lit (.string ((cellP r.1 r.2 n).1))), (.lit (.bool ((cellP r.1 r.2 n).2)))])
  | _ => none
theorem w_rec_PutCell_ok : XC.Nat w_rec_PutCell ∧ XC.Ok Try.prog 20 w_rec_PutCell := by
  refine ⟨fun R args K => ?_, tc20, fun args h v hx => ?_⟩
  · dsimp only; split <;> simp [Option.bind_assoc, mkP]
  · dsimp only at hx; split at hx
    · obtain ⟨_, hpre, hx⟩ := Option.bind_eq_some_iff.1 hx
      have hpre := req_some hpre
      obtain ⟨r, hopt, hx⟩ := Option.bind_eq_some_iff.1 hx
      cases hx
      exact (by have e := as2_some hopt; subst e; exact rec_PutCell _ _ _ hpre _)
    · cases hx
noncomputable def w_rec_PutPair : XC := .p fun R args K => match args with
  | [.agg a] => ((as2 a).bind fun r => (req (r.1 < 9223372036854775808 ∧ r.2 < 9223372036854775808)).bind fun _ => some r).bind fun r => K (.tup [(.lit (.string ((pairP r.1 r.2).1))), (.lit (.bool ((pairP r.1 r.2).2)))])
  | _ => none
theorem w_rec_PutPair_ok : XC.Nat w_rec_PutPair ∧ XC.Ok Try.prog 22 w_rec_PutPair := by
  refine ⟨fun R args K => ?_, tc22, fun args h v hx => ?_⟩
  · dsimp only; split <;> simp [Option.bind_assoc, mkP]
  · dsimp only at hx; split at hx
    · obtain ⟨r, hopt, hx⟩ := Option.bind_eq_some_iff.1 hx
      cases hx
      exact (by obtain ⟨r', h1, h2⟩ := Option.bind_eq_some_iff.1 hopt; obtain ⟨u, h3, h4⟩ := Option.bind_eq_some_iff.1 h2; cases h4; have e := as2_some h1; subst e; exact rec_PutPair _ _ (req_some h3).1 (req_some h3).2 _)
    · cases hx
noncomputable def w_rec_PutEdge : XC := .p fun R args K => match args with
  | [.agg a] => ((asEdge a).bind fun r => (req (r.1 < 9223372036854775808 ∧ r.2.1 < 9223372036854775808 ∧ r.2.2.1 < 9223372036854775808)).bind fun _ => some r).bind fun r => K (.tup [(.lit (.string ((edgeP r.1 r.2.1 r.2.2.1 r.2.2.2).1))), (.lit (.bool ((edgeP r.1 r.2.1 r.2.2.1 r.2.2.2).2)))])
  | _ => none
theorem w_rec_PutEdge_ok : XC.Nat w_rec_PutEdge ∧ XC.Ok Try.prog 24 w_rec_PutEdge := by
  refine ⟨fun R args K => ?_, tc24, fun args h v hx => ?_⟩
  · dsimp only; split <;> simp [Option.bind_assoc, mkP]
  · dsimp only at hx; split at hx
    · obtain ⟨r, hopt, hx⟩ := Option.bind_eq_some_iff.1 hx
      cases hx
      exact (by obtain ⟨r', h1, h2⟩ := Option.bind_eq_some_iff.1 hopt; obtain ⟨u, h3, h4⟩ := Option.bind_eq_some_iff.1 h2; cases h4; have e := asEdge_some h1; subst e; exact rec_PutEdge _ _ _ _ (req_some h3).1 (req_some h3).2.1 (req_some h3).2.2 _)
    · cases hx
noncomputable def w_rec_GetCell : XC := .p fun R args K => match args with
  | [.lit (.string s)] => (req (s.size ≤ 140737488351232)).bind fun _ => K (.tup [(.agg ([(.lit (.int .i64 ((getCell s).1))), (.lit (.int .i64 ((getCell s).2.1)))])), (.lit (.int .i64 ((getCell s).2.2.1))), (.lit (.bool ((getCell s).2.2.2)))])
  | _ => none
theorem w_rec_GetCell_ok : XC.Nat w_rec_GetCell ∧ XC.Ok Try.prog 42 w_rec_GetCell := by
  refine ⟨fun R args K => ?_, tc42, fun args h v hx => ?_⟩
  · dsimp only; split <;> simp [Option.bind_assoc, mkP]
  · dsimp only at hx; split at hx
    · obtain ⟨_, hpre, hx⟩ := Option.bind_eq_some_iff.1 hx
      have hpre := req_some hpre
      cases hx
      exact rec_GetCell _ hpre _
    · cases hx
noncomputable def w_rec_GetPair : XC := .p fun R args K => match args with
  | [.lit (.string s)] => (req (s.size ≤ 140737488351232)).bind fun _ => K (.tup [(.agg ([(.lit (.int .i64 ((getPair s).1))), (.lit (.int .i64 ((getPair s).2.1)))])), (.lit (.bool ((getPair s).2.2)))])
  | _ => none
theorem w_rec_GetPair_ok : XC.Nat w_rec_GetPair ∧ XC.Ok Try.prog 44 w_rec_GetPair := by
  refine ⟨fun R args K => ?_, tc44, fun args h v hx => ?_⟩
  · dsimp only; split <;> simp [Option.bind_assoc, mkP]
  · dsimp only at hx; split at hx
    · obtain ⟨_, hpre, hx⟩ := Option.bind_eq_some_iff.1 hx
      have hpre := req_some hpre
      cases hx
      exact rec_GetPair _ hpre _
    · cases hx
noncomputable def w_rec_GetEdge : XC := .p fun R args K => match args with
  | [.lit (.string s)] => (req (s.size ≤ 140737488351232)).bind fun _ => K (.tup [(.agg ([(.lit (.int .i64 ((getEdge s).1))), (.lit (.int .i64 ((getEdge s).2.1))), (.lit (.int .i64 ((getEdge s).2.2.1))), (.lit (.bool ((getEdge s).2.2.2.1)))])), (.lit (.bool ((getEdge s).2.2.2.2)))])
  | _ => none
theorem w_rec_GetEdge_ok : XC.Nat w_rec_GetEdge ∧ XC.Ok Try.prog 46 w_rec_GetEdge := by
  refine ⟨fun R args K => ?_, tc46, fun args h v hx => ?_⟩
  · dsimp only; split <;> simp [Option.bind_assoc, mkP]
  · dsimp only at hx; split at hx
    · obtain ⟨_, hpre, hx⟩ := Option.bind_eq_some_iff.1 hx
      have hpre := req_some hpre
      cases hx
      exact rec_GetEdge _ hpre _
    · cases hx
end Go.Proofs.Ytpjocohpogihcaa.AL
