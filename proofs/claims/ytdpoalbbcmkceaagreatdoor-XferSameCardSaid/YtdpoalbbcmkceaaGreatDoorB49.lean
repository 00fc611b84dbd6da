/- Texts of one proof, one behind the other: XferCome, XferCome2. -/
import Derived.Test.YtdpoalbbcmkceaaGreatDoorB47
import Derived.Test.YtdpoalbbcmkceaaGreatDoorB48
/- Contract of a transfer: come: a packet is taken out of the net and read. -/
namespace Go.Proofs.YtdpoalbbcmkceaaGreatDoor
open Go.RowKit
set_option linter.unusedVariables false
section
variable {E : Nat → Addr} {w0 w : World} {xb : Nat} {A : XA} {x : XS}
set_option maxRecDepth 100000 in
set_option maxHeartbeats 12800000 in
theorem xcome_bad (k : Nat) (h : XAt w0 w xb A x) (hk : k < x.net.length) (hn : x.net.length ≤ 1000000000) (hs : (x.net[k]'hk).1.length ≤ 100000) (hb : (decF (x.net[k]'hk).1).2 ≠ 0) (h1 : Has E w0 1) (h2 : Has E w0 2) (h4 : Has E w0 4) (h10 : Has E w0 10) :
    Calls Tryz.prog 24 #[.pointer (some ⟨xb, 0, none⟩), .int .i64 k] w fun e w' => e = .returned (.tuple #[]) ∧ ∃ A', XAt w0 w' xb A' { x with net := x.net.eraseIdx k } := by
  have HX := Lib.hid h
  have c3 := h.cells.cs.2.2.2.1
  obtain ⟨g, cap, hv, hc1, hc2⟩ := own_is h.rest.nt (by omega)
  have HO := h.rest.nt
  rw [hv] at HO c3
  have d0 := HO.cellAt (k * 2) (by omega)
  have d1 := HO.cellAt (k * 2 + 1) (by omega)
  rw [(pcells_get x.net k hk).1] at d0
  rw [(pcells_get x.net k hk).2] at d1
  have D := Lib.hid (fun (w' : World) (b : Below w.heap.size w w') => xdel_any x.net w0.heap.size k A.vn w' (owns_below h.rest.nt b) hk hn)
  rw [hv] at D
  have hw : IntKind.i64.wrap ((k : Int) + 1) = (k : Int) + 1 := IntWalk.i64_in _ (by omega)
  have DC := Lib.hid (fun (w' : World) (b : Below w0.heap.size w0 w') => fdec_any E (bs (x.net[k]'hk).1) w' (by rw [bs_size]; exact hs) (h1.below b) (h2.below b) (h4.below b) (h10.below b))
  have HB := Lib.hid hb
  rw [bs_list] at DC
  generalize hp : x.net[k]'hk = p at *
  have y1 : (0 : Int) ≤ k := by omega
  have y2 : (k : Int).toNat = k := by omega
  have y3 : (k : Int) < x.net.length := by omega
  have HV := Lib.hid hv
  clear h h1 h2 h4 h10 hs hb HO hp
  have X1 := Lib.hid (HX.out.below (wb_alloc w (.cells #[.string (bs p.1), .bool p.2] 62)))
  have c3b := X1.out.cells.cs.2.2.2.1
  rw [HV.out] at c3b
  have D1 := Lib.hid (D.out _ (wb_alloc w (.cells #[.string (bs p.1), .bool p.2] 62)))
  have BX := Lib.hid (heap_alloc_new w (.cells #[.string (bs p.1), .bool p.2] 62))
  have HXB := Lib.hid (lt_of_block HX.out.cells)
  have HGL := Lib.hid (show A.vn.ownBlock ≠ some w.heap.size from fun e => by have := (HX.out.rest.nt.lt _ e).2; omega)
  clear D HX
  go_enter Tryz.func24, Tryz.ntmps24
  go_wp2_with fail
  generalize (w.alloc (.cells #[.string (bs p.1), .bool p.2] 62)) = wa at *
  generalize hbx : w.heap.size = bx at *
  refine D1.out.mono ?_
  rintro e w2 ⟨r2, rfl, o2, g2⟩
  rw [← HV.out] at g2
  have q3 := X1.out.netCell g2
  have qa := q3.1
  have qb := q3.2
  have X2 := X1.out.netTo g2 o2
  have BX2 := (g2.block _ (lt_of_block BX.out) (fun e => HGL.out e.symm)).trans BX.out
  obtain ⟨va, vc, rfl⟩ := owns_slice o2
  have BX3 : (w2.setCell ⟨xb, 3, none⟩ (.slice va (x.net.eraseIdx k).length vc)).heap[bx]? = some (.cells #[.string (bs p.1), .bool p.2] 62 (0, 0)) :=
    ((XCell.chg w2 xb 3 (.slice va (x.net.eraseIdx k).length vc)).block bx (lt_of_block BX2) (by have := HXB.out; omega)).trans BX2
  have z0 : (w2.setCell ⟨xb, 3, none⟩ (.slice va (x.net.eraseIdx k).length vc)).cell? ⟨bx, 0, none⟩ = some (.string (bs p.1)) := by simp [World.cell?, BX3]
  have DC3 := DC.out _ X2.rest.bel
  rw [ev_pos E HB.out, PFr.val_is] at DC3
  generalize (decF p.1).1 = fr at *
  have DC3 := Lib.hid DC3
  have X3 := Lib.hid X2
  clear X2 BX2 BX3 g2 q3 D1 DC o2 X1 c3 c3b d0 d1
  go_wp2_with fail
  refine DC3.out.mono ?_
  rintro e w4 ⟨rfl, b4⟩
  have X4 := Lib.hid (X3.out.below b4)
  clear b4 DC3 X3
  go_wp2_with fail
  go_returns
  exact ⟨rfl, _, X4.out.below (wb_alloc w4 _)⟩
end
end Go.Proofs.YtdpoalbbcmkceaaGreatDoor
/- Contract of a transfer: come: a packet that reads well. -/
namespace Go.Proofs.YtdpoalbbcmkceaaGreatDoor
open Go.RowKit
set_option linter.unusedVariables false
section
variable {E : Nat → Addr} {w0 w : World} {xb : Nat} {A : XA} {x : XS}
set_option maxRecDepth 100000 in
set_option maxHeartbeats 12800000 in
theorem xcome_dst (k : Nat) (h : XAt w0 w xb A x) (hk : k < x.net.length) (hn : x.net.length ≤ 1000000000) (hs : (x.net[k]'hk).1.length ≤ 100000) (fe fq : Int) (fd : List UInt8) (kk : UInt8) (y : XS) (hb : decF (x.net[k]'hk).1 = (⟨kk, fe, fq, fd⟩, 0)) (h8 : kk ≠ 108) (h3 : kk ≠ 103) (HC : ∀ w' A', XAt w0 w' xb A' { x with net := x.net.eraseIdx k } → Calls Tryz.prog 42 #[.pointer (some ⟨xb, 0, none⟩), .agg #[.int .u8 kk.toNat, .int .i64 fe, .int .i64 fq, .string (bs fd)]] w' fun e w'' => e = .returned (.tuple #[]) ∧ ∃ A'', XAt w0 w'' xb A'' y) (h1 : Has E w0 1) (h2 : Has E w0 2) (h4 : Has E w0 4) (h10 : Has E w0 10) :
    Calls Tryz.prog 24 #[.pointer (some ⟨xb, 0, none⟩), .int .i64 k] w fun e w' => e = .returned (.tuple #[]) ∧ ∃ A', XAt w0 w' xb A' y := by
  have HX := Lib.hid h
  have c3 := h.cells.cs.2.2.2.1
  obtain ⟨g, cap, hv, hc1, hc2⟩ := own_is h.rest.nt (by omega)
  have HO := h.rest.nt
  rw [hv] at HO c3
  have d0 := HO.cellAt (k * 2) (by omega)
  have d1 := HO.cellAt (k * 2 + 1) (by omega)
  rw [(pcells_get x.net k hk).1] at d0
  rw [(pcells_get x.net k hk).2] at d1
  have D := Lib.hid (fun (w' : World) (b : Below w.heap.size w w') => xdel_any x.net w0.heap.size k A.vn w' (owns_below h.rest.nt b) hk hn)
  rw [hv] at D
  have hw : IntKind.i64.wrap ((k : Int) + 1) = (k : Int) + 1 := IntWalk.i64_in _ (by omega)
  have DC := Lib.hid (fun (w' : World) (b : Below w0.heap.size w0 w') => fdec_any E (bs (x.net[k]'hk).1) w' (by rw [bs_size]; exact hs) (h1.below b) (h2.below b) (h4.below b) (h10.below b))
  rw [bs_list, hb] at DC
  obtain ⟨kI, hkI⟩ : ∃ kI : Int, ((kk.toNat : Nat) : Int) = kI := ⟨_, rfl⟩
  have HCC := Lib.hid HC
  rw [hkI] at HCC
  have hkI := Lib.hid hkI
  clear HC
  have k8 : (kI == 108) = false := by rw [beq_eq_false_iff_ne]; intro e; exact h8 (UInt8.toNat_inj.1 (by have := hkI.out; show kk.toNat = 108; omega))
  have k3 : (kI == 103) = false := by rw [beq_eq_false_iff_ne]; intro e; exact h3 (UInt8.toNat_inj.1 (by have := hkI.out; show kk.toNat = 103; omega))
  generalize hp : x.net[k]'hk = p at *
  have y1 : (0 : Int) ≤ k := by omega
  have y2 : (k : Int).toNat = k := by omega
  have y3 : (k : Int) < x.net.length := by omega
  have HV := Lib.hid hv
  clear h h1 h2 h4 h10 hs hb HO hp
  have X1 := Lib.hid (HX.out.below (wb_alloc w (.cells #[.string (bs p.1), .bool p.2] 62)))
  have c3b := X1.out.cells.cs.2.2.2.1
  rw [HV.out] at c3b
  have D1 := Lib.hid (D.out _ (wb_alloc w (.cells #[.string (bs p.1), .bool p.2] 62)))
  have BX := Lib.hid (heap_alloc_new w (.cells #[.string (bs p.1), .bool p.2] 62))
  have HXB := Lib.hid (lt_of_block HX.out.cells)
  have HGL := Lib.hid (show A.vn.ownBlock ≠ some w.heap.size from fun e => by have := (HX.out.rest.nt.lt _ e).2; omega)
  clear D HX
  go_enter Tryz.func24, Tryz.ntmps24
  go_wp2_with fail
  generalize (w.alloc (.cells #[.string (bs p.1), .bool p.2] 62)) = wa at *
  generalize hbx : w.heap.size = bx at *
  refine D1.out.mono ?_
  rintro e w2 ⟨r2, rfl, o2, g2⟩
  rw [← HV.out] at g2
  have q3 := X1.out.netCell g2
  have qa := q3.1
  have qb := q3.2
  have X2 := X1.out.netTo g2 o2
  have BX2 := (g2.block _ (lt_of_block BX.out) (fun e => HGL.out e.symm)).trans BX.out
  obtain ⟨va, vc, rfl⟩ := owns_slice o2
  have BX3 : (w2.setCell ⟨xb, 3, none⟩ (.slice va (x.net.eraseIdx k).length vc)).heap[bx]? = some (.cells #[.string (bs p.1), .bool p.2] 62 (0, 0)) :=
    ((XCell.chg w2 xb 3 (.slice va (x.net.eraseIdx k).length vc)).block bx (lt_of_block BX2) (by have := HXB.out; omega)).trans BX2
  have z0 : (w2.setCell ⟨xb, 3, none⟩ (.slice va (x.net.eraseIdx k).length vc)).cell? ⟨bx, 0, none⟩ = some (.string (bs p.1)) := by simp [World.cell?, BX3]
  have DC3 := DC.out _ X2.rest.bel
  rw [ev_zero, PFr.val_is] at DC3
  simp only [] at DC3
  rw [hkI.out] at DC3
  have DC3 := Lib.hid DC3
  have X3 := Lib.hid X2
  clear X2 BX2 BX3 g2 q3 D1 DC o2 X1 c3 c3b d0 d1
  go_wp2_with fail
  refine DC3.out.mono ?_
  rintro e w4 ⟨rfl, b4⟩
  have X4 := Lib.hid (X3.out.below b4)
  clear b4 DC3 X3
  go_wp2_with fail
  refine (HCC.out _ _ (X4.out.below (wb_alloc w4 _))).mono ?_
  rintro e w5 ⟨rfl, A', hA⟩
  have HA := Lib.hid hA
  clear hA
  go_wp2_with fail
  go_returns
  exact ⟨rfl, A', HA.out⟩
set_option maxRecDepth 100000 in
set_option maxHeartbeats 12800000 in
theorem xcome_list (k : Nat) (h : XAt w0 w xb A x) (hk : k < x.net.length) (hn : x.net.length ≤ 1000000000) (hs : (x.net[k]'hk).1.length ≤ 100000) (fe fq : Int) (fd : List UInt8) (kk : UInt8) (y : XS) (hb : decF (x.net[k]'hk).1 = (⟨kk, fe, fq, fd⟩, 0)) (h8 : kk = 108) (HC : ∀ w' A', XAt w0 w' xb A' { x with net := x.net.eraseIdx k } → Calls Tryz.prog 41 #[.pointer (some ⟨xb, 0, none⟩), .agg #[.int .u8 kk.toNat, .int .i64 fe, .int .i64 fq, .string (bs fd)]] w' fun e w'' => e = .returned (.tuple #[]) ∧ ∃ A'', XAt w0 w'' xb A'' y) (h1 : Has E w0 1) (h2 : Has E w0 2) (h4 : Has E w0 4) (h10 : Has E w0 10) :
    Calls Tryz.prog 24 #[.pointer (some ⟨xb, 0, none⟩), .int .i64 k] w fun e w' => e = .returned (.tuple #[]) ∧ ∃ A', XAt w0 w' xb A' y := by
  have HX := Lib.hid h
  have c3 := h.cells.cs.2.2.2.1
  obtain ⟨g, cap, hv, hc1, hc2⟩ := own_is h.rest.nt (by omega)
  have HO := h.rest.nt
  rw [hv] at HO c3
  have d0 := HO.cellAt (k * 2) (by omega)
  have d1 := HO.cellAt (k * 2 + 1) (by omega)
  rw [(pcells_get x.net k hk).1] at d0
  rw [(pcells_get x.net k hk).2] at d1
  have D := Lib.hid (fun (w' : World) (b : Below w.heap.size w w') => xdel_any x.net w0.heap.size k A.vn w' (owns_below h.rest.nt b) hk hn)
  rw [hv] at D
  have hw : IntKind.i64.wrap ((k : Int) + 1) = (k : Int) + 1 := IntWalk.i64_in _ (by omega)
  have DC := Lib.hid (fun (w' : World) (b : Below w0.heap.size w0 w') => fdec_any E (bs (x.net[k]'hk).1) w' (by rw [bs_size]; exact hs) (h1.below b) (h2.below b) (h4.below b) (h10.below b))
  rw [bs_list, hb] at DC
  have hkI := Lib.hid (show ((kk.toNat : Nat) : Int) = 108 by rw [h8]; rfl)
  have HCC := Lib.hid HC
  rw [hkI.out] at HCC
  clear HC
  generalize hp : x.net[k]'hk = p at *
  have y1 : (0 : Int) ≤ k := by omega
  have y2 : (k : Int).toNat = k := by omega
  have y3 : (k : Int) < x.net.length := by omega
  have HV := Lib.hid hv
  clear h h1 h2 h4 h10 hs hb HO hp
  have X1 := Lib.hid (HX.out.below (wb_alloc w (.cells #[.string (bs p.1), .bool p.2] 62)))
  have c3b := X1.out.cells.cs.2.2.2.1
  rw [HV.out] at c3b
  have D1 := Lib.hid (D.out _ (wb_alloc w (.cells #[.string (bs p.1), .bool p.2] 62)))
  have BX := Lib.hid (heap_alloc_new w (.cells #[.string (bs p.1), .bool p.2] 62))
  have HXB := Lib.hid (lt_of_block HX.out.cells)
  have HGL := Lib.hid (show A.vn.ownBlock ≠ some w.heap.size from fun e => by have := (HX.out.rest.nt.lt _ e).2; omega)
  clear D HX
  go_enter Tryz.func24, Tryz.ntmps24
  go_wp2_with fail
  generalize (w.alloc (.cells #[.string (bs p.1), .bool p.2] 62)) = wa at *
  generalize hbx : w.heap.size = bx at *
  refine D1.out.mono ?_
  rintro e w2 ⟨r2, rfl, o2, g2⟩
  rw [← HV.out] at g2
  have q3 := X1.out.netCell g2
  have qa := q3.1
  have qb := q3.2
  have X2 := X1.out.netTo g2 o2
  have BX2 := (g2.block _ (lt_of_block BX.out) (fun e => HGL.out e.symm)).trans BX.out
  obtain ⟨va, vc, rfl⟩ := owns_slice o2
  have BX3 : (w2.setCell ⟨xb, 3, none⟩ (.slice va (x.net.eraseIdx k).length vc)).heap[bx]? = some (.cells #[.string (bs p.1), .bool p.2] 62 (0, 0)) :=
    ((XCell.chg w2 xb 3 (.slice va (x.net.eraseIdx k).length vc)).block bx (lt_of_block BX2) (by have := HXB.out; omega)).trans BX2
  have z0 : (w2.setCell ⟨xb, 3, none⟩ (.slice va (x.net.eraseIdx k).length vc)).cell? ⟨bx, 0, none⟩ = some (.string (bs p.1)) := by simp [World.cell?, BX3]
  have DC3 := DC.out _ X2.rest.bel
  rw [ev_zero, PFr.val_is] at DC3
  simp only [] at DC3
  rw [hkI.out] at DC3
  have DC3 := Lib.hid DC3
  have X3 := Lib.hid X2
  clear X2 BX2 BX3 g2 q3 D1 DC o2 X1 c3 c3b d0 d1
  go_wp2_with fail
  refine DC3.out.mono ?_
  rintro e w4 ⟨rfl, b4⟩
  have X4 := Lib.hid (X3.out.below b4)
  clear b4 DC3 X3
  go_wp2_with fail
  refine (HCC.out _ _ (X4.out.below (wb_alloc w4 _))).mono ?_
  rintro e w5 ⟨rfl, A', hA⟩
  have HA := Lib.hid hA
  clear hA
  go_wp2_with fail
  go_returns
  exact ⟨rfl, A', HA.out⟩
set_option maxRecDepth 100000 in
set_option maxHeartbeats 12800000 in
theorem xcome_file (k : Nat) (h : XAt w0 w xb A x) (hk : k < x.net.length) (hn : x.net.length ≤ 1000000000) (hs : (x.net[k]'hk).1.length ≤ 100000) (fe fq : Int) (fd : List UInt8) (kk : UInt8) (y : XS) (hb : decF (x.net[k]'hk).1 = (⟨kk, fe, fq, fd⟩, 0)) (h3 : kk = 103) (HC : ∀ w' A', XAt w0 w' xb A' { x with net := x.net.eraseIdx k } → Calls Tryz.prog 41 #[.pointer (some ⟨xb, 0, none⟩), .agg #[.int .u8 kk.toNat, .int .i64 fe, .int .i64 fq, .string (bs fd)]] w' fun e w'' => e = .returned (.tuple #[]) ∧ ∃ A'', XAt w0 w'' xb A'' y) (h1 : Has E w0 1) (h2 : Has E w0 2) (h4 : Has E w0 4) (h10 : Has E w0 10) :
    Calls Tryz.prog 24 #[.pointer (some ⟨xb, 0, none⟩), .int .i64 k] w fun e w' => e = .returned (.tuple #[]) ∧ ∃ A', XAt w0 w' xb A' y := by
  have HX := Lib.hid h
  have c3 := h.cells.cs.2.2.2.1
  obtain ⟨g, cap, hv, hc1, hc2⟩ := own_is h.rest.nt (by omega)
  have HO := h.rest.nt
  rw [hv] at HO c3
  have d0 := HO.cellAt (k * 2) (by omega)
  have d1 := HO.cellAt (k * 2 + 1) (by omega)
  rw [(pcells_get x.net k hk).1] at d0
  rw [(pcells_get x.net k hk).2] at d1
  have D := Lib.hid (fun (w' : World) (b : Below w.heap.size w w') => xdel_any x.net w0.heap.size k A.vn w' (owns_below h.rest.nt b) hk hn)
  rw [hv] at D
  have hw : IntKind.i64.wrap ((k : Int) + 1) = (k : Int) + 1 := IntWalk.i64_in _ (by omega)
  have DC := Lib.hid (fun (w' : World) (b : Below w0.heap.size w0 w') => fdec_any E (bs (x.net[k]'hk).1) w' (by rw [bs_size]; exact hs) (h1.below b) (h2.below b) (h4.below b) (h10.below b))
  rw [bs_list, hb] at DC
  have hkI := Lib.hid (show ((kk.toNat : Nat) : Int) = 103 by rw [h3]; rfl)
  have HCC := Lib.hid HC
  rw [hkI.out] at HCC
  clear HC
  generalize hp : x.net[k]'hk = p at *
  have y1 : (0 : Int) ≤ k := by omega
  have y2 : (k : Int).toNat = k := by omega
  have y3 : (k : Int) < x.net.length := by omega
  have HV := Lib.hid hv
  clear h h1 h2 h4 h10 hs hb HO hp
  have X1 := Lib.hid (HX.out.below (wb_alloc w (.cells #[.string (bs p.1), .bool p.2] 62)))
  have c3b := X1.out.cells.cs.2.2.2.1
  rw [HV.out] at c3b
  have D1 := Lib.hid (D.out _ (wb_alloc w (.cells #[.string (bs p.1), .bool p.2] 62)))
  have BX := Lib.hid (heap_alloc_new w (.cells #[.string (bs p.1), .bool p.2] 62))
  have HXB := Lib.hid (lt_of_block HX.out.cells)
  have HGL := Lib.hid (show A.vn.ownBlock ≠ some w.heap.size from fun e => by have := (HX.out.rest.nt.lt _ e).2; omega)
  clear D HX
  go_enter Tryz.func24, Tryz.ntmps24
  go_wp2_with fail
  generalize (w.alloc (.cells #[.string (bs p.1), .bool p.2] 62)) = wa at *
  generalize hbx : w.heap.size = bx at *
  refine D1.out.mono ?_
  rintro e w2 ⟨r2, rfl, o2, g2⟩
  rw [← HV.out] at g2
  have q3 := X1.out.netCell g2
  have qa := q3.1
  have qb := q3.2
  have X2 := X1.out.netTo g2 o2
  have BX2 := (g2.block _ (lt_of_block BX.out) (fun e => HGL.out e.symm)).trans BX.out
  obtain ⟨va, vc, rfl⟩ := owns_slice o2
  have BX3 : (w2.setCell ⟨xb, 3, none⟩ (.slice va (x.net.eraseIdx k).length vc)).heap[bx]? = some (.cells #[.string (bs p.1), .bool p.2] 62 (0, 0)) :=
    ((XCell.chg w2 xb 3 (.slice va (x.net.eraseIdx k).length vc)).block bx (lt_of_block BX2) (by have := HXB.out; omega)).trans BX2
  have z0 : (w2.setCell ⟨xb, 3, none⟩ (.slice va (x.net.eraseIdx k).length vc)).cell? ⟨bx, 0, none⟩ = some (.string (bs p.1)) := by simp [World.cell?, BX3]
  have DC3 := DC.out _ X2.rest.bel
  rw [ev_zero, PFr.val_is] at DC3
  simp only [] at DC3
  rw [hkI.out] at DC3
  have DC3 := Lib.hid DC3
  have X3 := Lib.hid X2
  clear X2 BX2 BX3 g2 q3 D1 DC o2 X1 c3 c3b d0 d1
  go_wp2_with fail
  refine DC3.out.mono ?_
  rintro e w4 ⟨rfl, b4⟩
  have X4 := Lib.hid (X3.out.below b4)
  clear b4 DC3 X3
  go_wp2_with fail
  refine (HCC.out _ _ (X4.out.below (wb_alloc w4 _))).mono ?_
  rintro e w5 ⟨rfl, A', hA⟩
  have HA := Lib.hid hA
  clear hA
  go_wp2_with fail
  go_returns
  exact ⟨rfl, A', HA.out⟩
end
end Go.Proofs.YtdpoalbbcmkceaaGreatDoor
