/- Contracts of files.Drop, files.find. -/
import Derived.Test.YtapdfgnfblkncaaDoorFilList
import Derived.Test.YtapdfgnfblkncaaDoorDelFile
namespace Go.Proofs.YtapdfgnfblkncaaDoor
open Go.RowKit
set_option linter.unusedVariables false

theorem enterDrop : ∀ args w, (callFunc 62 args).run Tryd.prog w = .ok (.enter 62 args) w := enters_of Tryd.func62 (by kernel_rfl) rfl
set_option maxRecDepth 100000 in
set_option maxHeartbeats 1600000 in
theorem drop1_any (f : PF) (n : List UInt8) (b : Nat) (w : World) (hc : w.cell? ⟨b, 0, none⟩ = some (.string (bs n))) :
    Calls Tryd.prog 62 #[.agg #[.string (bs f.n), .string (bs f.d)], .pointer (some ⟨b, 0, none⟩)] w fun e w' => e = .returned (.bool (f.n == n)) ∧ Below w.heap.size w w' := by
  have hb : b < w.heap.size := World.block_lt_of_cell? w _ hc
  have hne : b ≠ w.heap.size := by omega
  have HB := Lib.hid (wb_alloc w (.cells #[.string (bs f.n), .string (bs f.d)] 75))
  have HE := Lib.hid (show ((bs f.n).toList == (bs n).toList) = (f.n == n) by rw [bs_tl', bs_tl'])
  go_enter Tryd.func62, Tryd.ntmps62
  go_wp2_with fail
  go_ret
  exact ⟨by rw [← HE.out]; rfl, HB.out⟩
set_option maxRecDepth 100000 in
set_option maxHeartbeats 3200000 in
theorem fldrop_any (l : List PF) (v : Value) (n : List UInt8) (w : World) (hl : SliceIs w v 2 (fcells l)) (hlen : l.length ≤ 1000000) :
    Calls Tryd.prog 31 #[v, .string (bs n)] w fun e w' => ∃ r, e = .returned r ∧ w'.ownsRow w.heap.size 75 2 r (dropL l n).length (fcells (dropL l n)) ∧ Below w.heap.size w w' := by
  have B0 := Lib.hid (below_box w (.string (bs n)) 9)
  have CL := Lib.hid (flclone_any l v _ (hl.below B0.out) hlen)
  clear hl
  go_enter Tryd.func31, Tryd.ntmps31
  go_wp2_with fail
  refine CL.out.mono ?_
  rintro e w1 ⟨r, rfl, hr, b1⟩
  have HR := Lib.hid hr
  have HB1 := Lib.hid b1
  have key := delFile_any fn0 fn1 (fun _ => ⟨rfl, rfl⟩) (fun f => f.n == n) 62 #[.pointer (some ⟨w.heap.size, 0, none⟩)] enterDrop _ r l w1 hr (fun W x hx hc =>
    drop1_any x n w.heap.size W (by
      have h0 : w1.cell? ⟨w.heap.size, 0, none⟩ = some (.string (bs n)) := (b1.cell (p := ⟨w.heap.size, 0, none⟩) (by simp)).trans (by simp)
      have hb := hc.block w.heap.size (World.block_lt_of_cell? w1 _ h0) (fun e => by have h9 := (hr.lt _ e).1; revert h9; simp)
      rw [← h0]; exact World.cell?_of_block hb))
  have KEY := Lib.hid key
  obtain ⟨va, vc, rfl⟩ := owns_slice hr
  clear hr b1 key CL
  go_wp2_with fail
  refine KEY.out.mono ?_
  rintro e w2 ⟨v', rfl, h1, h2, h3⟩
  have HH := Lib.hid h1
  have HC := Lib.hid h3
  clear h1 h2 h3 KEY
  go_wp2_with fail
  go_ret
  refine ⟨_, rfl, ?_, ?_⟩
  · exact owns_mono' HH.out B0.out.size
  · exact HC.out.below (below_trans' B0.out HB1.out) (fun x hx => by have := (HR.out.lt x hx).1; have := B0.out.size; omega)
end Go.Proofs.YtapdfgnfblkncaaDoor
