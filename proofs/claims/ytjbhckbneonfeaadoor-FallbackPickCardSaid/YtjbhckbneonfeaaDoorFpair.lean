/- An array of two ints that came in by value. -/
import Derived.Test.YtjbhckbneonfeaaDoorFopen
import Derived.OpenShut
namespace Go.Proofs.YtjbhckbneonfeaaDoor
open Go.Joins Go.ChangeShapes Go.WideShapes Go.RowKit Go.Deep
section
variable {H : Type} {enc : TypeId × Value → H} {P : Program} {w : World} {base : Nat} {spare : Nat → Bool} {held : Bool}
theorem okWide_array {r : Reach} {b0 n : Nat} {t e : TypeId} {v : Value} (ht : P.underlying t = some (.array n e)) (h : Value.okWide P w r b0 t v) : ∃ cs, v = .agg cs ∧ cs.size = P.cellsOf t := by
  unfold Value.okWide at h
  rw [ht] at h
  cases v <;> simp_all
theorem pair_open {r : Reach} {b0 : Nat} {t e : TypeId} {v : Value} {d : DataW H} {p : List MemPlace} (ht : P.underlying t = some (.array 2 e)) (he : P.underlying e = some (.int .i64)) (hC : P.cellsOf t = 2) (hce : P.cellsOf e = 1)
    (hv : Value.okWide P w r b0 t v) (h : DataW.Trod enc P w base spare held t v d p) : ∃ a b : Int, v = .agg #[.int .i64 a, .int .i64 b] := by
  obtain ⟨⟨l⟩, rfl, hsz⟩ := okWide_array ht hv
  rw [hC] at hsz
  match l, hsz with
  | [v0, v1], _ =>
    obtain ⟨fuel, hf⟩ := h
    obtain ⟨xs, m, _, _, _, hxl, hg⟩ := DataW.trod_array ht hf
    have g0 := hg 0 (by omega)
    have g1 := hg 1 (by omega)
    match xs, hxl with
    | [y0, y1], _ =>
      obtain ⟨a, rfl, _⟩ := int_form he ⟨y0, by simpa [Value.cells, hce] using g0⟩
      obtain ⟨b, rfl, _⟩ := int_form he ⟨y1, by simpa [Value.cells, hce] using g1⟩
      exact ⟨a, b, rfl⟩
end
end Go.Proofs.YtjbhckbneonfeaaDoor
