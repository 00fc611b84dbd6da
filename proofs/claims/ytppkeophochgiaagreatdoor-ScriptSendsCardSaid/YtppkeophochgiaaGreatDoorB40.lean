/- Texts of one proof, one behind the other: XferAnsG, XferCome, XferCome2, XferClos. -/
import Derived.Test.YtppkeophochgiaaGreatDoorB38
import Derived.Test.YtppkeophochgiaaGreatDoorB39
import Derived.Test.YtppkeophochgiaaGreatDoorB28
/- Contract of a transfer: the source's answer to a request for a file. -/
namespace Go.Proofs.YtppkeophochgiaaGreatDoor
open Go.RowKit
set_option linter.unusedVariables false
theorem below_grown {w w1 w2 : World} {b : Nat} (h : Below w.heap.size w w1) (g : w1.grownBy w2 (some b)) (hb : w.heap.size ≤ b) : Below w.heap.size w w2 :=
  (Chg.of_grown g).below h (fun z hz => by subst hz; exact hb)
section
variable {E : Nat → Addr} {w0 w : World} {xb : Nat} {A : XA} {x : XS}
set_option maxRecDepth 100000 in
set_option maxHeartbeats 12800000 in
theorem xansg_any (fe fq : Int) (d n t l1 l2 data : List UInt8) (c1 c2 : Nat) (bl : List Blk) (z : Nat) (ops : List POp) (h : XAt w0 w xb A x) (hfr : FWF x.fr) (hn : x.net.length ≤ 1000000000)
    (hd : d.length ≤ 1000000) (hl1 : l1.length ≤ 1000000) (ht : t.length ≤ 1000000) (e1 : rtT d 0 = n) (e2 : rtR d 0 = l1) (e3 : rtC d 0 = c1) (e4 : rtT l1 c1 = t) (e5 : rtR l1 c1 = l2) (e6 : rtC l1 c1 = c2) (e7 : rEnd l2 c2 = 0)
    (s1 : readSg t = (bl, z, 0)) (s2 : (chk bl z).1 = 0) (hg : fgetL x.fr n = some data) (hdata : data.length ≤ 4000) (ho : mkOps bl z data = ops) (hc : (dtC ops).1 = 0) (ho1 : ops.length ≤ 1000000) (ho2 : (opsT ops).length ≤ 100000000) (hnl : n.length ≤ 1000) (hol : (dtL ops).length ≤ 20000)
    (h1 : Has E w0 1) (h2 : Has E w0 2) (h3 : Has E w0 3) (h4 : Has E w0 4) (h8 : Has E w0 8) :
    Calls Tryz.prog 194 #[.pointer (some ⟨xb, 0, none⟩), .agg #[.int .u8 103, .int .i64 fe, .int .i64 fq, .string (bs d)]] w fun e w' => e = .returned (.tuple #[]) ∧ ∃ A', XAt w0 w' xb A' (x.put ⟨111, fe, fq, num n.length ++ (n ++ (num (dtL ops).length ++ dtL ops))⟩) := by
  have HX := Lib.hid h
  have HS := Lib.hid (fun (c : Nat) (w' : World) (b : Below w.heap.size w w') (hh : Has E w0 c) => hh.below (below_trans' h.rest.bel b))
  have H1 := Lib.hid (fun w' b => HS.out 1 w' b h1)
  have H2 := Lib.hid (fun w' b => HS.out 2 w' b h2)
  have H3 := Lib.hid (fun w' b => HS.out 3 w' b h3)
  have H4 := Lib.hid (fun w' b => HS.out 4 w' b h4)
  have H8 := Lib.hid (fun w' b => HS.out 8 w' b h8)
  have GT := Lib.hid (fun (w' : World) (b : Below w.heap.size w w') => flget_any x.fr A.vf n w' ((SliceIs.ownedK h.rest.fr).below b))
  rw [hg] at GT
  have PT := Lib.hid (fun (w' : World) (b : Below w.heap.size w w') => xput_any (E := E) ⟨111, fe, fq, num n.length ++ (n ++ (num (dtL ops).length ++ dtL ops))⟩ (h.below b) hn (H2.out w' b) (H4.out w' b))
  simp only [PFr.val_is] at PT
  rw [show (((111 : UInt8).toNat : Nat) : Int) = 111 from rfl] at PT
  obtain ⟨r, hr⟩ : ∃ r, XS.put ⟨111, fe, fq, num n.length ++ (n ++ (num (dtL ops).length ++ dtL ops))⟩ x = r := ⟨_, rfl⟩
  rw [hr] at PT ⊢
  have B1 := Lib.hid (wb_alloc w (.cells #[.int .u8 103, .int .i64 fe, .int .i64 fq, .string (bs d)] 248))
  have B2 := Lib.hid (B1.out.alloc B1.out.size (.cells #[.int .u8 109, .int .i64 fe, .int .i64 fq, .string ⟨#[]⟩] 248))
  have B3 := Lib.hid (B2.out.alloc B2.out.size (.cells #[.string (bs d), .nilIface] 304))
  have CF := Lib.hid (fun (w' : World) (b : Below w.heap.size w w') => (h.below b).cells.cs.1)
  have NB := Lib.hid (heap_alloc_new (w.alloc (.cells #[.int .u8 103, .int .i64 fe, .int .i64 fq, .string (bs d)] 248)) (.cells #[.int .u8 109, .int .i64 fe, .int .i64 fq, .string ⟨#[]⟩] 248))
  clear h hfr hn h1 h2 h3 h4 h8 HS hr hg
  go_enter Tryz.func194, Tryz.ntmps194
  go_wp2_with fail
  have RA : RAt E (((w.alloc (.cells #[.int .u8 103, .int .i64 fe, .int .i64 fq, .string (bs d)] 248)).alloc (.cells #[.int .u8 109, .int .i64 fe, .int .i64 fq, .string ⟨#[]⟩] 248)).alloc (.cells #[.string (bs d), .nilIface] 304)) (w.heap.size + 1 + 1) d 0 := by
    have := heap_alloc_new ((w.alloc (.cells #[.int .u8 103, .int .i64 fe, .int .i64 fq, .string (bs d)] 248)).alloc (.cells #[.int .u8 109, .int .i64 fe, .int .i64 fq, .string ⟨#[]⟩] 248)) (.cells #[.string (bs d), .nilIface] 304)
    rw [show ((w.alloc (.cells #[.int .u8 103, .int .i64 fe, .int .i64 fq, .string (bs d)] 248)).alloc (.cells #[.int .u8 109, .int .i64 fe, .int .i64 fq, .string ⟨#[]⟩] 248)).heap.size = w.heap.size + 1 + 1 by simp] at this
    unfold RAt
    rw [ev_zero]
    exact this
  have OA : (((w.alloc (.cells #[.int .u8 103, .int .i64 fe, .int .i64 fq, .string (bs d)] 248)).alloc (.cells #[.int .u8 109, .int .i64 fe, .int .i64 fq, .string ⟨#[]⟩] 248)).alloc (.cells #[.string (bs d), .nilIface] 304)).heap[w.heap.size + 1]? = some (.cells #[.int .u8 109, .int .i64 fe, .int .i64 fq, .string ⟨#[]⟩] 248) := by
    have h0 := NB.out
    rw [show (w.alloc (.cells #[.int .u8 103, .int .i64 fe, .int .i64 fq, .string (bs d)] 248)).heap.size = w.heap.size + 1 by simp] at h0
    exact ((wb_alloc ((w.alloc (.cells #[.int .u8 103, .int .i64 fe, .int .i64 fq, .string (bs d)] 248)).alloc (.cells #[.int .u8 109, .int .i64 fe, .int .i64 fq, .string ⟨#[]⟩] 248)) (.cells #[.string (bs d), .nilIface] 304)).block _ (by simp)).trans h0
  generalize ((w.alloc (.cells #[.int .u8 103, .int .i64 fe, .int .i64 fq, .string (bs d)] 248)).alloc (.cells #[.int .u8 109, .int .i64 fe, .int .i64 fq, .string ⟨#[]⟩] 248)).alloc (.cells #[.string (bs d), .nilIface] 304) = wa at *
  have OA := Lib.hid OA
  have RA := Lib.hid RA
  have hb1 := Lib.hid (show w.heap.size ≤ w.heap.size + 1 + 1 by omega)
  have hb2 := Lib.hid (show w.heap.size ≤ w.heap.size + 1 by omega)
  have hb3 := Lib.hid (show w.heap.size + 1 ≠ w.heap.size + 1 + 1 by omega)
  generalize w.heap.size + 1 + 1 = rb at *
  generalize w.heap.size + 1 = ob at *
  have X1 := Lib.hid (rtext_any E rb d 0 wa (by omega) RA.out (H1.out _ B3.out) (H2.out _ B3.out))
  rw [e1, e2, e3] at X1
  clear B1 B2 NB
  refine X1.out.mono ?_
  rintro e w1 ⟨rfl, R1, g1⟩
  have b1 := below_grown B3.out g1 hb1.out
  have X2 := Lib.hid (rtext_any E rb l1 c1 w1 (by omega) R1 (H1.out _ b1) (H2.out _ b1))
  rw [e4, e5, e6] at X2
  have OA1 := Lib.hid ((g1.block _ (lt_of_block OA.out) (fun e => hb3.out (Option.some.inj e))).trans OA.out)
  have B4 := Lib.hid b1
  clear R1 g1 b1 X1 B3 OA RA
  go_wp2_with fail
  refine X2.out.mono ?_
  rintro e w2 ⟨rfl, R2, g2⟩
  have b2 := below_grown B4.out g2 hb1.out
  have OA2 := Lib.hid ((g2.block _ (lt_of_block OA1.out) (fun e => hb3.out (Option.some.inj e))).trans OA1.out)
  have SR := sread_any E (bs t) w2 (by rw [bs_size]; omega) (H1.out _ b2) (H2.out _ b2) (H8.out _ b2)
  rw [bs_list, s1] at SR
  simp only [ev_zero] at SR
  have SR := Lib.hid SR
  have R2 := Lib.hid R2
  have B5 := Lib.hid b2
  clear g2 b2 X2 OA1 B4
  go_wp2_with fail
  refine SR.out.mono ?_
  rintro e w3 ⟨v3, rfl, o3, b3⟩
  have O3 := Lib.hid o3
  obtain ⟨va, vc, rfl⟩ := owns_slice o3
  have R3 := Lib.hid (R2.out.below b3)
  have OA3 := Lib.hid ((b3.block _ (lt_of_block OA2.out)).trans OA2.out)
  have B6 := Lib.hid (below_trans' B5.out b3)
  have c0 := CF.out _ B6.out
  have G3 := Lib.hid (GT.out _ B6.out)
  clear o3 b3 SR R2 OA2 B5 GT
  go_wp2_with fail
  refine G3.out.mono ?_
  rintro e w4 ⟨rfl, b4⟩
  have R4 := R3.out.below b4
  have OA4 := Lib.hid ((b4.block _ (lt_of_block OA3.out)).trans OA3.out)
  have B7 := Lib.hid (below_trans' B6.out b4)
  have O4 := Lib.hid (owns_below O3.out b4)
  have R4b := Lib.hid (show w4.heap[rb]? = some (.cells #[.string (bs l2), ev E c2] 304 (0, 0)) from R4)
  have EN := rend_any E rb l2 c2 w4 R4 (H1.out _ B7.out)
  rw [e7, ev_zero] at EN
  have EN := Lib.hid EN
  clear b4 R3 R4 OA3 O3 B6 G3 c0
  go_wp2_with fail
  refine EN.out.mono ?_
  rintro e w5 ⟨rfl, R5, g5⟩
  have b5 := below_grown B7.out g5 hb1.out
  have OA5 := Lib.hid ((g5.block _ (lt_of_block OA4.out) (fun e => hb3.out (Option.some.inj e))).trans OA4.out)
  have O5 := own_other O4.out (Chg.of_grown g5) (fun y hy e => own_ne O4.out R4b.out (by decide) (by rw [hy, e]))
  have MK := make_any E va bl.length vc bl (z : Int) (bs data) w5 (SliceIs.ownedK O5) (H2.out _ b5) (H8.out _ b5) s2 (by rw [bs_size]; exact hdata)
  rw [bs_list, Int.toNat_natCast, ho] at MK
  have MK := Lib.hid MK
  have B8 := Lib.hid b5
  clear g5 b5 R5 O5 O4 OA4 EN B7 R4b
  go_wp2_with fail
  refine MK.out.mono ?_
  rintro e w6 ⟨v6, rfl, o6, b6⟩
  have B9 := Lib.hid (below_trans' B8.out b6)
  have OA6 := Lib.hid ((b6.block _ (lt_of_block OA5.out)).trans OA5.out)
  obtain ⟨ua, uc, rfl⟩ := owns_slice o6
  have TX := Lib.hid (dtext_any E ua ops.length uc ops w6 (SliceIs.ownedK o6) (H2.out _ B9.out) (H3.out _ B9.out) (H4.out _ B9.out) ho1 ho2)
  clear o6 b6 MK OA5 B8
  go_wp2_with fail
  refine TX.out.mono ?_
  rintro e w7 ⟨v7, rfl, fe7, b7⟩
  rw [hc] at fe7
  obtain rfl := fe7.zero
  have B10 := Lib.hid (below_trans' B9.out b7)
  have OA7 := Lib.hid ((b7.block _ (lt_of_block OA6.out)).trans OA6.out)
  clear fe7 b7 TX B9 OA6
  generalize hdt : dtL ops = dt at *
  go_wp2_with fail
  have W0 := WAt.new E w7
  have B11 := Lib.hid (B10.out.alloc B10.out.size (.cells #[.slice none 0 0, .nilIface] 312))
  have hl4 : w7.heap.size < (w7.alloc (.cells #[.slice none 0 0, .nilIface] 312)).heap.size := by simp
  have hw3 : w.heap.size ≤ w7.heap.size := B10.out.size
  have OA8 := Lib.hid (((wb_alloc w7 (.cells #[.slice none 0 0, .nilIface] 312)).block _ (lt_of_block OA7.out)).trans OA7.out)
  have hob : ob < w7.heap.size := lt_of_block OA7.out
  generalize w7.alloc (.cells #[.slice none 0 0, .nilIface] 312) = w8 at *
  generalize w7.heap.size = wb at *
  refine (wtext_ok E wb [] (bs n) w8 (by simp) W0 (H2.out _ B11.out) (by rw [bs_size]; omega)).mono ?_
  rintro e w9 ⟨rfl, W5, k5⟩
  have B12 := Lib.hid (k5.old B11.out hw3 hl4)
  have OA9 := Lib.hid (k5.obj OA8.out (by omega) (by decide))
  rw [bs_size, bs_list, List.nil_append] at W5
  clear W0 k5 B11 hl4 OA8 OA7 B10
  go_wp2_with fail
  refine (wtext_ok E wb _ (bs dt) w9 (by rw [List.length_append]; have := num_len n.length; omega) W5 (H2.out _ B12.out) (by rw [bs_size]; exact hol)).mono ?_
  rintro e w10 ⟨rfl, W6, k6⟩
  have B13 := Lib.hid (k6.old B12.out hw3 W5.lt)
  have OA10 := Lib.hid (k6.obj OA9.out (by omega) (by decide))
  rw [bs_size, bs_list] at W6
  clear W5 k6 B12 OA9
  go_wp2_with fail
  refine (wdone_any E wb _ 0 w10 (fun _ => by rw [List.length_append, List.length_append]; have := num_pos n.length; omega) W6).mono ?_
  rintro e w11 ⟨rfl, d7⟩
  rw [doneL_zero, ev_zero]
  have b11 := d7.below w10.heap.size
  have OA11 := (b11.block _ (lt_of_block OA10.out)).trans OA10.out
  have B14 := Lib.hid (below_trans' B13.out b11)
  obtain ⟨⟨d0, d1, d2, d3⟩, q⟩ := cells4x OA11
  have q0 := q 0
  have q3 := q 3
  rw [List.append_assoc]
  generalize num n.length ++ (n ++ (num dt.length ++ dt)) = tx at *
  have B15 := Lib.hid ((Below.setCell B14.out (p := ⟨ob, 0, none⟩) hb2.out (.int .u8 111)).setCell (p := ⟨ob, 3, none⟩) hb2.out (.string (bs tx)))
  have PT5 := Lib.hid (PT.out _ B15.out)
  clear W6 d7 OA11 OA10 B13 B14 B15 PT q b11
  go_wp2_with fail
  refine PT5.out.mono ?_
  rintro e w12 ⟨rfl, A', hA⟩
  have HA := Lib.hid hA
  clear hA PT5
  go_wp2_with fail
  go_returns
  exact ⟨rfl, A', HA.out⟩
end
end Go.Proofs.YtppkeophochgiaaGreatDoor
/- Contract of a transfer: come: a packet is taken out of the net and read. -/
namespace Go.Proofs.YtppkeophochgiaaGreatDoor
open Go.RowKit
set_option linter.unusedVariables false
section
variable {E : Nat → Addr} {w0 w : World} {xb : Nat} {A : XA} {x : XS}
set_option maxRecDepth 100000 in
set_option maxHeartbeats 12800000 in
theorem xcome_bad (k : Nat) (h : XAt w0 w xb A x) (hk : k < x.net.length) (hn : x.net.length ≤ 1000000000) (hs : (x.net[k]'hk).1.length ≤ 100000) (hb : (decF (x.net[k]'hk).1).2 ≠ 0) (h1 : Has E w0 1) (h2 : Has E w0 2) (h4 : Has E w0 4) (h10 : Has E w0 10) :
    Calls Tryz.prog 158 #[.pointer (some ⟨xb, 0, none⟩), .int .i64 k] w fun e w' => e = .returned (.tuple #[]) ∧ ∃ A', XAt w0 w' xb A' { x with net := x.net.eraseIdx k } := by
  have HX := Lib.hid h
  have c3 := h.cells.cs.2.2.2.1
  obtain ⟨g, cap, hv, hc1, hc2⟩ := own_is h.rest.nt (by omega)
  have HO := h.rest.nt
  rw [hv] at HO c3
  have d0 := HO.cellAt (k * 2) (by omega)
  have d1 := HO.cellAt (k * 2 + 1) (by omega)
  rw [(pcells_get x.net k hk).1] at d0
  rw [(pcells_get x.net k hk).2] at d1
  have D := Lib.hid (fun (w' : World) (b : Below w.heap.size w w') => xdel_any x.net w0.heap.size k A.vn w' (owns_below h.rest.nt b) hk hn)
  rw [hv] at D
  have hw : IntKind.i64.wrap ((k : Int) + 1) = (k : Int) + 1 := IntWalk.i64_in _ (by omega)
  have DC := Lib.hid (fun (w' : World) (b : Below w0.heap.size w0 w') => fdec_any E (bs (x.net[k]'hk).1) w' (by rw [bs_size]; exact hs) (h1.below b) (h2.below b) (h4.below b) (h10.below b))
  have HB := Lib.hid hb
  rw [bs_list] at DC
  generalize hp : x.net[k]'hk = p at *
  have y1 : (0 : Int) ≤ k := by omega
  have y2 : (k : Int).toNat = k := by omega
  have y3 : (k : Int) < x.net.length := by omega
  have HV := Lib.hid hv
  clear h h1 h2 h4 h10 hs hb HO hp
  have X1 := Lib.hid (HX.out.below (wb_alloc w (.cells #[.string (bs p.1), .bool p.2] 255)))
  have c3b := X1.out.cells.cs.2.2.2.1
  rw [HV.out] at c3b
  have D1 := Lib.hid (D.out _ (wb_alloc w (.cells #[.string (bs p.1), .bool p.2] 255)))
  have BX := Lib.hid (heap_alloc_new w (.cells #[.string (bs p.1), .bool p.2] 255))
  have HXB := Lib.hid (lt_of_block HX.out.cells)
  have HGL := Lib.hid (show A.vn.ownBlock ≠ some w.heap.size from fun e => by have := (HX.out.rest.nt.lt _ e).2; omega)
  clear D HX
  go_enter Tryz.func158, Tryz.ntmps158
  go_wp2_with fail
  generalize (w.alloc (.cells #[.string (bs p.1), .bool p.2] 255)) = wa at *
  generalize hbx : w.heap.size = bx at *
  refine D1.out.mono ?_
  rintro e w2 ⟨r2, rfl, o2, g2⟩
  rw [← HV.out] at g2
  have q3 := X1.out.netCell g2
  have qa := q3.1
  have qb := q3.2
  have X2 := X1.out.netTo g2 o2
  have BX2 := (g2.block _ (lt_of_block BX.out) (fun e => HGL.out e.symm)).trans BX.out
  obtain ⟨va, vc, rfl⟩ := owns_slice o2
  have BX3 : (w2.setCell ⟨xb, 3, none⟩ (.slice va (x.net.eraseIdx k).length vc)).heap[bx]? = some (.cells #[.string (bs p.1), .bool p.2] 255 (0, 0)) :=
    ((XCell.chg w2 xb 3 (.slice va (x.net.eraseIdx k).length vc)).block bx (lt_of_block BX2) (by have := HXB.out; omega)).trans BX2
  have z0 : (w2.setCell ⟨xb, 3, none⟩ (.slice va (x.net.eraseIdx k).length vc)).cell? ⟨bx, 0, none⟩ = some (.string (bs p.1)) := by simp [World.cell?, BX3]
  have DC3 := DC.out _ X2.rest.bel
  rw [ev_pos E HB.out, PFr.val_is] at DC3
  generalize (decF p.1).1 = fr at *
  have DC3 := Lib.hid DC3
  have X3 := Lib.hid X2
  clear X2 BX2 BX3 g2 q3 D1 DC o2 X1 c3 c3b d0 d1
  go_wp2_with fail
  refine DC3.out.mono ?_
  rintro e w4 ⟨rfl, b4⟩
  have X4 := Lib.hid (X3.out.below b4)
  clear b4 DC3 X3
  go_wp2_with fail
  go_returns
  exact ⟨rfl, _, X4.out.below (wb_alloc w4 _)⟩
end
end Go.Proofs.YtppkeophochgiaaGreatDoor
/- Contract of a transfer: come: a packet that reads well. -/
namespace Go.Proofs.YtppkeophochgiaaGreatDoor
open Go.RowKit
set_option linter.unusedVariables false
section
variable {E : Nat → Addr} {w0 w : World} {xb : Nat} {A : XA} {x : XS}
set_option maxRecDepth 100000 in
set_option maxHeartbeats 12800000 in
theorem xcome_dst (k : Nat) (h : XAt w0 w xb A x) (hk : k < x.net.length) (hn : x.net.length ≤ 1000000000) (hs : (x.net[k]'hk).1.length ≤ 100000) (fe fq : Int) (fd : List UInt8) (kk : UInt8) (y : XS) (hb : decF (x.net[k]'hk).1 = (⟨kk, fe, fq, fd⟩, 0)) (h8 : kk ≠ 108) (h3 : kk ≠ 103) (HC : ∀ w' A', XAt w0 w' xb A' { x with net := x.net.eraseIdx k } → Calls Tryz.prog 195 #[.pointer (some ⟨xb, 0, none⟩), .agg #[.int .u8 kk.toNat, .int .i64 fe, .int .i64 fq, .string (bs fd)]] w' fun e w'' => e = .returned (.tuple #[]) ∧ ∃ A'', XAt w0 w'' xb A'' y) (h1 : Has E w0 1) (h2 : Has E w0 2) (h4 : Has E w0 4) (h10 : Has E w0 10) :
    Calls Tryz.prog 158 #[.pointer (some ⟨xb, 0, none⟩), .int .i64 k] w fun e w' => e = .returned (.tuple #[]) ∧ ∃ A', XAt w0 w' xb A' y := by
  have HX := Lib.hid h
  have c3 := h.cells.cs.2.2.2.1
  obtain ⟨g, cap, hv, hc1, hc2⟩ := own_is h.rest.nt (by omega)
  have HO := h.rest.nt
  rw [hv] at HO c3
  have d0 := HO.cellAt (k * 2) (by omega)
  have d1 := HO.cellAt (k * 2 + 1) (by omega)
  rw [(pcells_get x.net k hk).1] at d0
  rw [(pcells_get x.net k hk).2] at d1
  have D := Lib.hid (fun (w' : World) (b : Below w.heap.size w w') => xdel_any x.net w0.heap.size k A.vn w' (owns_below h.rest.nt b) hk hn)
  rw [hv] at D
  have hw : IntKind.i64.wrap ((k : Int) + 1) = (k : Int) + 1 := IntWalk.i64_in _ (by omega)
  have DC := Lib.hid (fun (w' : World) (b : Below w0.heap.size w0 w') => fdec_any E (bs (x.net[k]'hk).1) w' (by rw [bs_size]; exact hs) (h1.below b) (h2.below b) (h4.below b) (h10.below b))
  rw [bs_list, hb] at DC
  obtain ⟨kI, hkI⟩ : ∃ kI : Int, ((kk.toNat : Nat) : Int) = kI := ⟨_, rfl⟩
  have HCC := Lib.hid HC
  rw [hkI] at HCC
  have hkI := Lib.hid hkI
  clear HC
  have k8 : (kI == 108) = false := by rw [beq_eq_false_iff_ne]; intro e; exact h8 (UInt8.toNat_inj.1 (by have := hkI.out; show kk.toNat = 108; omega))
  have k3 : (kI == 103) = false := by rw [beq_eq_false_iff_ne]; intro e; exact h3 (UInt8.toNat_inj.1 (by have := hkI.out; show kk.toNat = 103; omega))
  generalize hp : x.net[k]'hk = p at *
  have y1 : (0 : Int) ≤ k := by omega
  have y2 : (k : Int).toNat = k := by omega
  have y3 : (k : Int) < x.net.length := by omega
  have HV := Lib.hid hv
  clear h h1 h2 h4 h10 hs hb HO hp
  have X1 := Lib.hid (HX.out.below (wb_alloc w (.cells #[.string (bs p.1), .bool p.2] 255)))
  have c3b := X1.out.cells.cs.2.2.2.1
  rw [HV.out] at c3b
  have D1 := Lib.hid (D.out _ (wb_alloc w (.cells #[.string (bs p.1), .bool p.2] 255)))
  have BX := Lib.hid (heap_alloc_new w (.cells #[.string (bs p.1), .bool p.2] 255))
  have HXB := Lib.hid (lt_of_block HX.out.cells)
  have HGL := Lib.hid (show A.vn.ownBlock ≠ some w.heap.size from fun e => by have := (HX.out.rest.nt.lt _ e).2; omega)
  clear D HX
  go_enter Tryz.func158, Tryz.ntmps158
  go_wp2_with fail
  generalize (w.alloc (.cells #[.string (bs p.1), .bool p.2] 255)) = wa at *
  generalize hbx : w.heap.size = bx at *
  refine D1.out.mono ?_
  rintro e w2 ⟨r2, rfl, o2, g2⟩
  rw [← HV.out] at g2
  have q3 := X1.out.netCell g2
  have qa := q3.1
  have qb := q3.2
  have X2 := X1.out.netTo g2 o2
  have BX2 := (g2.block _ (lt_of_block BX.out) (fun e => HGL.out e.symm)).trans BX.out
  obtain ⟨va, vc, rfl⟩ := owns_slice o2
  have BX3 : (w2.setCell ⟨xb, 3, none⟩ (.slice va (x.net.eraseIdx k).length vc)).heap[bx]? = some (.cells #[.string (bs p.1), .bool p.2] 255 (0, 0)) :=
    ((XCell.chg w2 xb 3 (.slice va (x.net.eraseIdx k).length vc)).block bx (lt_of_block BX2) (by have := HXB.out; omega)).trans BX2
  have z0 : (w2.setCell ⟨xb, 3, none⟩ (.slice va (x.net.eraseIdx k).length vc)).cell? ⟨bx, 0, none⟩ = some (.string (bs p.1)) := by simp [World.cell?, BX3]
  have DC3 := DC.out _ X2.rest.bel
  rw [ev_zero, PFr.val_is] at DC3
  simp only [] at DC3
  rw [hkI.out] at DC3
  have DC3 := Lib.hid DC3
  have X3 := Lib.hid X2
  clear X2 BX2 BX3 g2 q3 D1 DC o2 X1 c3 c3b d0 d1
  go_wp2_with fail
  refine DC3.out.mono ?_
  rintro e w4 ⟨rfl, b4⟩
  have X4 := Lib.hid (X3.out.below b4)
  clear b4 DC3 X3
  go_wp2_with fail
  refine (HCC.out _ _ (X4.out.below (wb_alloc w4 _))).mono ?_
  rintro e w5 ⟨rfl, A', hA⟩
  have HA := Lib.hid hA
  clear hA
  go_wp2_with fail
  go_returns
  exact ⟨rfl, A', HA.out⟩
set_option maxRecDepth 100000 in
set_option maxHeartbeats 12800000 in
theorem xcome_list (k : Nat) (h : XAt w0 w xb A x) (hk : k < x.net.length) (hn : x.net.length ≤ 1000000000) (hs : (x.net[k]'hk).1.length ≤ 100000) (fe fq : Int) (fd : List UInt8) (kk : UInt8) (y : XS) (hb : decF (x.net[k]'hk).1 = (⟨kk, fe, fq, fd⟩, 0)) (h8 : kk = 108) (HC : ∀ w' A', XAt w0 w' xb A' { x with net := x.net.eraseIdx k } → Calls Tryz.prog 194 #[.pointer (some ⟨xb, 0, none⟩), .agg #[.int .u8 kk.toNat, .int .i64 fe, .int .i64 fq, .string (bs fd)]] w' fun e w'' => e = .returned (.tuple #[]) ∧ ∃ A'', XAt w0 w'' xb A'' y) (h1 : Has E w0 1) (h2 : Has E w0 2) (h4 : Has E w0 4) (h10 : Has E w0 10) :
    Calls Tryz.prog 158 #[.pointer (some ⟨xb, 0, none⟩), .int .i64 k] w fun e w' => e = .returned (.tuple #[]) ∧ ∃ A', XAt w0 w' xb A' y := by
  have HX := Lib.hid h
  have c3 := h.cells.cs.2.2.2.1
  obtain ⟨g, cap, hv, hc1, hc2⟩ := own_is h.rest.nt (by omega)
  have HO := h.rest.nt
  rw [hv] at HO c3
  have d0 := HO.cellAt (k * 2) (by omega)
  have d1 := HO.cellAt (k * 2 + 1) (by omega)
  rw [(pcells_get x.net k hk).1] at d0
  rw [(pcells_get x.net k hk).2] at d1
  have D := Lib.hid (fun (w' : World) (b : Below w.heap.size w w') => xdel_any x.net w0.heap.size k A.vn w' (owns_below h.rest.nt b) hk hn)
  rw [hv] at D
  have hw : IntKind.i64.wrap ((k : Int) + 1) = (k : Int) + 1 := IntWalk.i64_in _ (by omega)
  have DC := Lib.hid (fun (w' : World) (b : Below w0.heap.size w0 w') => fdec_any E (bs (x.net[k]'hk).1) w' (by rw [bs_size]; exact hs) (h1.below b) (h2.below b) (h4.below b) (h10.below b))
  rw [bs_list, hb] at DC
  have hkI := Lib.hid (show ((kk.toNat : Nat) : Int) = 108 by rw [h8]; rfl)
  have HCC := Lib.hid HC
  rw [hkI.out] at HCC
  clear HC
  generalize hp : x.net[k]'hk = p at *
  have y1 : (0 : Int) ≤ k := by omega
  have y2 : (k : Int).toNat = k := by omega
  have y3 : (k : Int) < x.net.length := by omega
  have HV := Lib.hid hv
  clear h h1 h2 h4 h10 hs hb HO hp
  have X1 := Lib.hid (HX.out.below (wb_alloc w (.cells #[.string (bs p.1), .bool p.2] 255)))
  have c3b := X1.out.cells.cs.2.2.2.1
  rw [HV.out] at c3b
  have D1 := Lib.hid (D.out _ (wb_alloc w (.cells #[.string (bs p.1), .bool p.2] 255)))
  have BX := Lib.hid (heap_alloc_new w (.cells #[.string (bs p.1), .bool p.2] 255))
  have HXB := Lib.hid (lt_of_block HX.out.cells)
  have HGL := Lib.hid (show A.vn.ownBlock ≠ some w.heap.size from fun e => by have := (HX.out.rest.nt.lt _ e).2; omega)
  clear D HX
  go_enter Tryz.func158, Tryz.ntmps158
  go_wp2_with fail
  generalize (w.alloc (.cells #[.string (bs p.1), .bool p.2] 255)) = wa at *
  generalize hbx : w.heap.size = bx at *
  refine D1.out.mono ?_
  rintro e w2 ⟨r2, rfl, o2, g2⟩
  rw [← HV.out] at g2
  have q3 := X1.out.netCell g2
  have qa := q3.1
  have qb := q3.2
  have X2 := X1.out.netTo g2 o2
  have BX2 := (g2.block _ (lt_of_block BX.out) (fun e => HGL.out e.symm)).trans BX.out
  obtain ⟨va, vc, rfl⟩ := owns_slice o2
  have BX3 : (w2.setCell ⟨xb, 3, none⟩ (.slice va (x.net.eraseIdx k).length vc)).heap[bx]? = some (.cells #[.string (bs p.1), .bool p.2] 255 (0, 0)) :=
    ((XCell.chg w2 xb 3 (.slice va (x.net.eraseIdx k).length vc)).block bx (lt_of_block BX2) (by have := HXB.out; omega)).trans BX2
  have z0 : (w2.setCell ⟨xb, 3, none⟩ (.slice va (x.net.eraseIdx k).length vc)).cell? ⟨bx, 0, none⟩ = some (.string (bs p.1)) := by simp [World.cell?, BX3]
  have DC3 := DC.out _ X2.rest.bel
  rw [ev_zero, PFr.val_is] at DC3
  simp only [] at DC3
  rw [hkI.out] at DC3
  have DC3 := Lib.hid DC3
  have X3 := Lib.hid X2
  clear X2 BX2 BX3 g2 q3 D1 DC o2 X1 c3 c3b d0 d1
  go_wp2_with fail
  refine DC3.out.mono ?_
  rintro e w4 ⟨rfl, b4⟩
  have X4 := Lib.hid (X3.out.below b4)
  clear b4 DC3 X3
  go_wp2_with fail
  refine (HCC.out _ _ (X4.out.below (wb_alloc w4 _))).mono ?_
  rintro e w5 ⟨rfl, A', hA⟩
  have HA := Lib.hid hA
  clear hA
  go_wp2_with fail
  go_returns
  exact ⟨rfl, A', HA.out⟩
set_option maxRecDepth 100000 in
set_option maxHeartbeats 12800000 in
theorem xcome_file (k : Nat) (h : XAt w0 w xb A x) (hk : k < x.net.length) (hn : x.net.length ≤ 1000000000) (hs : (x.net[k]'hk).1.length ≤ 100000) (fe fq : Int) (fd : List UInt8) (kk : UInt8) (y : XS) (hb : decF (x.net[k]'hk).1 = (⟨kk, fe, fq, fd⟩, 0)) (h3 : kk = 103) (HC : ∀ w' A', XAt w0 w' xb A' { x with net := x.net.eraseIdx k } → Calls Tryz.prog 194 #[.pointer (some ⟨xb, 0, none⟩), .agg #[.int .u8 kk.toNat, .int .i64 fe, .int .i64 fq, .string (bs fd)]] w' fun e w'' => e = .returned (.tuple #[]) ∧ ∃ A'', XAt w0 w'' xb A'' y) (h1 : Has E w0 1) (h2 : Has E w0 2) (h4 : Has E w0 4) (h10 : Has E w0 10) :
    Calls Tryz.prog 158 #[.pointer (some ⟨xb, 0, none⟩), .int .i64 k] w fun e w' => e = .returned (.tuple #[]) ∧ ∃ A', XAt w0 w' xb A' y := by
  have HX := Lib.hid h
  have c3 := h.cells.cs.2.2.2.1
  obtain ⟨g, cap, hv, hc1, hc2⟩ := own_is h.rest.nt (by omega)
  have HO := h.rest.nt
  rw [hv] at HO c3
  have d0 := HO.cellAt (k * 2) (by omega)
  have d1 := HO.cellAt (k * 2 + 1) (by omega)
  rw [(pcells_get x.net k hk).1] at d0
  rw [(pcells_get x.net k hk).2] at d1
  have D := Lib.hid (fun (w' : World) (b : Below w.heap.size w w') => xdel_any x.net w0.heap.size k A.vn w' (owns_below h.rest.nt b) hk hn)
  rw [hv] at D
  have hw : IntKind.i64.wrap ((k : Int) + 1) = (k : Int) + 1 := IntWalk.i64_in _ (by omega)
  have DC := Lib.hid (fun (w' : World) (b : Below w0.heap.size w0 w') => fdec_any E (bs (x.net[k]'hk).1) w' (by rw [bs_size]; exact hs) (h1.below b) (h2.below b) (h4.below b) (h10.below b))
  rw [bs_list, hb] at DC
  have hkI := Lib.hid (show ((kk.toNat : Nat) : Int) = 103 by rw [h3]; rfl)
  have HCC := Lib.hid HC
  rw [hkI.out] at HCC
  clear HC
  generalize hp : x.net[k]'hk = p at *
  have y1 : (0 : Int) ≤ k := by omega
  have y2 : (k : Int).toNat = k := by omega
  have y3 : (k : Int) < x.net.length := by omega
  have HV := Lib.hid hv
  clear h h1 h2 h4 h10 hs hb HO hp
  have X1 := Lib.hid (HX.out.below (wb_alloc w (.cells #[.string (bs p.1), .bool p.2] 255)))
  have c3b := X1.out.cells.cs.2.2.2.1
  rw [HV.out] at c3b
  have D1 := Lib.hid (D.out _ (wb_alloc w (.cells #[.string (bs p.1), .bool p.2] 255)))
  have BX := Lib.hid (heap_alloc_new w (.cells #[.string (bs p.1), .bool p.2] 255))
  have HXB := Lib.hid (lt_of_block HX.out.cells)
  have HGL := Lib.hid (show A.vn.ownBlock ≠ some w.heap.size from fun e => by have := (HX.out.rest.nt.lt _ e).2; omega)
  clear D HX
  go_enter Tryz.func158, Tryz.ntmps158
  go_wp2_with fail
  generalize (w.alloc (.cells #[.string (bs p.1), .bool p.2] 255)) = wa at *
  generalize hbx : w.heap.size = bx at *
  refine D1.out.mono ?_
  rintro e w2 ⟨r2, rfl, o2, g2⟩
  rw [← HV.out] at g2
  have q3 := X1.out.netCell g2
  have qa := q3.1
  have qb := q3.2
  have X2 := X1.out.netTo g2 o2
  have BX2 := (g2.block _ (lt_of_block BX.out) (fun e => HGL.out e.symm)).trans BX.out
  obtain ⟨va, vc, rfl⟩ := owns_slice o2
  have BX3 : (w2.setCell ⟨xb, 3, none⟩ (.slice va (x.net.eraseIdx k).length vc)).heap[bx]? = some (.cells #[.string (bs p.1), .bool p.2] 255 (0, 0)) :=
    ((XCell.chg w2 xb 3 (.slice va (x.net.eraseIdx k).length vc)).block bx (lt_of_block BX2) (by have := HXB.out; omega)).trans BX2
  have z0 : (w2.setCell ⟨xb, 3, none⟩ (.slice va (x.net.eraseIdx k).length vc)).cell? ⟨bx, 0, none⟩ = some (.string (bs p.1)) := by simp [World.cell?, BX3]
  have DC3 := DC.out _ X2.rest.bel
  rw [ev_zero, PFr.val_is] at DC3
  simp only [] at DC3
  rw [hkI.out] at DC3
  have DC3 := Lib.hid DC3
  have X3 := Lib.hid X2
  clear X2 BX2 BX3 g2 q3 D1 DC o2 X1 c3 c3b d0 d1
  go_wp2_with fail
  refine DC3.out.mono ?_
  rintro e w4 ⟨rfl, b4⟩
  have X4 := Lib.hid (X3.out.below b4)
  clear b4 DC3 X3
  go_wp2_with fail
  refine (HCC.out _ _ (X4.out.below (wb_alloc w4 _))).mono ?_
  rintro e w5 ⟨rfl, A', hA⟩
  have HA := Lib.hid hA
  clear hA
  go_wp2_with fail
  go_returns
  exact ⟨rfl, A', HA.out⟩
end
end Go.Proofs.YtppkeophochgiaaGreatDoor
/- The closures of a transfer: a line of a name. -/
namespace Go.Proofs.YtppkeophochgiaaGreatDoor
open Go.RowKit
set_option linter.unusedVariables false
theorem enterGiv : ∀ args w, (callFunc 256 args).run Tryz.prog w = .ok (.enter 256 args) w := enters_of Tryz.func256 (by kernel_rfl) rfl
set_option maxRecDepth 100000 in
set_option maxHeartbeats 3200000 in
theorem given1_any (y : PL) (n : List UInt8) (b : Nat) (w : World) (hc : w.cell? ⟨b, 0, none⟩ = some (.string (bs n))) :
    Calls Tryz.prog 256 #[.agg #[.string (bs y.n), .int .i64 y.N, .int .u32 y.S], .pointer (some ⟨b, 0, none⟩)] w fun e w' => e = .returned (.bool (y.n == n)) ∧ Below w.heap.size w w' := by
  have hb : b < w.heap.size := World.block_lt_of_cell? w _ hc
  have hne : b ≠ w.heap.size := by omega
  have HB := Lib.hid (wb_alloc w (.cells #[.string (bs y.n), .int .i64 y.N, .int .u32 y.S] 179))
  have HE := Lib.hid (show ((bs y.n).toList == (bs n).toList) = (y.n == n) by rw [bs_tl', bs_tl'])
  go_enter Tryz.func256, Tryz.ntmps256
  go_wp2_with fail
  go_ret
  exact ⟨by rw [← HE.out]; rfl, HB.out⟩
theorem enterPut2 : ∀ args w, (callFunc 270 args).run Tryz.prog w = .ok (.enter 270 args) w := enters_of Tryz.func270 (by kernel_rfl) rfl
set_option maxRecDepth 100000 in
set_option maxHeartbeats 3200000 in
theorem put211_any (y : PL) (n : List UInt8) (b : Nat) (w : World) (hc : w.cell? ⟨b, 0, none⟩ = some (.string (bs n))) :
    Calls Tryz.prog 270 #[.agg #[.string (bs y.n), .int .i64 y.N, .int .u32 y.S], .pointer (some ⟨b, 0, none⟩)] w fun e w' => e = .returned (.bool (y.n == n)) ∧ Below w.heap.size w w' := by
  have hb : b < w.heap.size := World.block_lt_of_cell? w _ hc
  have hne : b ≠ w.heap.size := by omega
  have HB := Lib.hid (wb_alloc w (.cells #[.string (bs y.n), .int .i64 y.N, .int .u32 y.S] 179))
  have HE := Lib.hid (show ((bs y.n).toList == (bs n).toList) = (y.n == n) by rw [bs_tl', bs_tl'])
  go_enter Tryz.func270, Tryz.ntmps270
  go_wp2_with fail
  go_ret
  exact ⟨by rw [← HE.out]; rfl, HB.out⟩
end Go.Proofs.YtppkeophochgiaaGreatDoor
