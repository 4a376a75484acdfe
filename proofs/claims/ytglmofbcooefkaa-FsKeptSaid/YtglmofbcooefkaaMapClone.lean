/- maps.Clone, out of the kit's contract, told over abstract values. -/
import Derived.Shelf.SlMaps.Clone
import Derived.Test.YtglmofbcooefkaaShClone
import Derived.Test.YtglmofbcooefkaaTx
import Derived.Test.YtglmofbcooefkaaALR
namespace Go.Proofs.Ytglmofbcooefkaa.AL
set_option linter.unusedVariables false
set_option linter.unusedSimpArgs false
open Go

theorem mapsClone_run {h : AHeap} {mb : Nat} {d : MKey} {es : List (Value × AVal)} (hm : h[mb]? = some (.map d es)) :
    ACalls Try.prog 23 [.map mb] h fun e g => e = .ret (.map h.length) ∧ g = psh h (.map d es) := by
  intro ρ w us hR hv
  obtain ⟨u, rfl, hu⟩ := hv.single
  obtain ⟨C, clock, hC, hs, hl, hes⟩ := hR.obj mb _ hm
  cases hu with
  | map _ hb =>
    refine (AnyW.maps_Clone Try.laysClone _ C clock w hC).mono ?_
    rintro e w' ⟨rfl, rfl⟩
    have ev : Evo ρ h w (ext ρ h.length ⟨w.heap.size, 0, 0⟩) (h ++ [.map d es]) { w with heap := w.heap.push (.map C clock) } := evo_push (l := ⟨w.heap.size, 0, 0⟩) hR rfl
    refine ⟨ext ρ h.length ⟨w.heap.size, 0, 0⟩, h ++ [.map d es], .ret (.map h.length), ev, Rel.push (l := ⟨w.heap.size, 0, 0⟩) (o := .map d es) hR rfl ⟨C, clock, by simp, hs, hl, fun i hi => ⟨(hes i hi).1, (hes i hi).2.1, (hes i hi).2.2.evo ev⟩⟩, ?_, rfl, rfl⟩
    have := VR.map (ρ := ext ρ h.length ⟨w.heap.size, 0, 0⟩) (h := h ++ [.map d es]) (w := { w with heap := w.heap.push (.map C clock) }) h.length (by simp)
    simp only [ext_self] at this
    exact .ret _ _ this
def mapOf (h : AHeap) (v : AVal) : Option (MKey × List (Value × AVal)) := match v with
  | .map b => match h[b]? with
    | some (.map d es) => some (d, es)
    | _ => none
  | _ => none
theorem mapsClone_of {h : AHeap} {v : AVal} {r : MKey × List (Value × AVal)} (hx : mapOf h v = some r) :
    ACalls Try.prog 23 [v] h fun e g => e = .ret (.map h.length) ∧ g = psh h (.map r.1 r.2) := by
  unfold mapOf at hx
  split at hx
  · split at hx
    · rename_i hb; cases hx; exact mapsClone_run hb
    · cases hx
  · cases hx
end Go.Proofs.Ytglmofbcooefkaa.AL
