/- Chapter 52: the window of signs, the reference's way; the comparing function value. -/
import Derived.Test.YtmbgeeiidpllcaaDoorDs
namespace Go.Proofs.YtmbgeeiidpllcaaDoor
open Go.ChangeShapes Go.WideShapes Go.ChangeAt Go.RowKit
set_option maxRecDepth 100000
set_option linter.unusedSimpArgs false

def sameL (fx fy : List Int) (i k : Nat) : Bool := nth fx i == nth fy k
set_option maxHeartbeats 1000000 in
theorem formsClo_any (i k : Nat) (bx bY : Nat) (X : Option Addr) (nx cx : Nat) (fx : List Int) (Y : Option Addr) (ny cy : Nat) (fy : List Int) (w : World)
    (h1 : w.cell? ⟨bx, 0, none⟩ = some (.slice X nx cx)) (h2 : w.cell? ⟨bY, 0, none⟩ = some (.slice Y ny cy)) (hx : IntsAt w w.heap.size .i64 X nx fx) (hy : IntsAt w w.heap.size .i64 Y ny fy) (hi : i < nx) (hk : k < ny) :
    Calls Tryd.prog 25 #[.int .i64 (i : Int), .int .i64 (k : Int), .pointer (some ⟨bx, 0, none⟩), .pointer (some ⟨bY, 0, none⟩)] w fun e w' => e = .returned (.bool (sameL fx fy i k)) ∧ Below w.heap.size w w' := by
  obtain ⟨ax, rfl, _, hcx⟩ := hx.2 (by omega)
  obtain ⟨ay, rfl, _, hcy⟩ := hy.2 (by omega)
  have c1 := hcx i hi
  have c2 := hcy k hk
  unfold sameL
  generalize nth fx i = u at *
  generalize nth fy k = v at *
  have i1 : (i : Int) < (nx : Int) := by omega
  have i2 : (k : Int) < (ny : Int) := by omega
  have i3 : (0 : Int) ≤ (i : Int) := by omega
  have i4 : (0 : Int) ≤ (k : Int) := by omega
  clear hcx hcy hx hy hi hk
  go_enter Tryd.func25, Tryd.ntmps25
  go_wp2_with fail
  go_quiet (fail)
  go_wp2
  go_ret
  exact ⟨rfl, below_drewN (Below.refl _ _) _⟩
theorem formsTells (bx bY : Nat) (X : Option Addr) (nx cx : Nat) (fx : List Int) (Y : Option Addr) (ny cy : Nat) (fy : List Int) (w : World)
    (h1 : w.cell? ⟨bx, 0, none⟩ = some (.slice X nx cx)) (h2 : w.cell? ⟨bY, 0, none⟩ = some (.slice Y ny cy)) (hx : IntsAt w w.heap.size .i64 X nx fx) (hy : IntsAt w w.heap.size .i64 Y ny fy) :
    Tells2 Tryd.prog 25 #[.pointer (some ⟨bx, 0, none⟩), .pointer (some ⟨bY, 0, none⟩)] (sameL fx fy) nx ny w :=
  fun i k hi hk => formsClo_any i k bx bY X nx cx fx Y ny cy fy w h1 h2 hx hy hi hk

/-- what lies in memory while the reference seeks -/
structure RSel (w wr : World) (p g : Nat) (D : Option Addr) (m d : Nat) (st : Int) : Prop where
  four : Four wr w.heap.size 24 (.int .i64 (p : Int)) (.int .i64 (g : Int)) (.slice D m d) (.int .i64 st)
  res : Two wr (w.heap.size + 1) 27 (.int .i64 0) (.int .i64 0)
  be : Below w.heap.size w wr
theorem RSel.pass {w wr w' : World} {p g : Nat} {D : Option Addr} {m d : Nat} {st : Int} (h : RSel w wr p g D m d st) (hb : Below wr.heap.size wr w') : RSel w w' p g D m d st :=
  ⟨h.four.pass hb h.four.lt, h.res.pass hb h.res.lt, h.be.trans (hb.mono h.be.size)⟩
end Go.Proofs.YtmbgeeiidpllcaaDoor
