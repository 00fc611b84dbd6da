/- Texts of one proof, one behind the other: XferAnsL, XferAnsG, XferClos, XferIx, XferPut2, XferGiv, XferAnsd, XferNewNo. -/
import Derived.Test.YtdpoalbbcmkceaaGreatDoorB43
import Derived.Test.YtdpoalbbcmkceaaGreatDoorB38
import Derived.Test.YtdpoalbbcmkceaaGreatDoorB35
import Derived.Test.YtdpoalbbcmkceaaGreatDoorB40
import Derived.Test.YtdpoalbbcmkceaaGreatDoorB36
/- Contract of a transfer: the source's answer to a request for lines. -/
namespace Go.Proofs.YtdpoalbbcmkceaaGreatDoor
open Go.RowKit
set_option linter.unusedVariables false
section
variable {E : Nat → Addr} {w0 w : World} {xb : Nat} {A : XA} {x : XS}
set_option maxRecDepth 100000 in
set_option maxHeartbeats 6400000 in
theorem xansl_any (fe fq : Int) (d : List UInt8) (h : XAt w0 w xb A x) (hfr : FWF x.fr) (hn : x.net.length ≤ 1000000000) (hS : ∀ b ∈ x.fr.map PF.line, b.S < 4294967296) (h2 : Has E w0 2) (h4 : Has E w0 4) (h5 : Has E w0 5) (h8 : Has E w0 8) (h9 : Has E w0 9) :
    Calls Tryz.prog 41 #[.pointer (some ⟨xb, 0, none⟩), .agg #[.int .u8 108, .int .i64 fe, .int .i64 fq, .string (bs d)]] w fun e w' => e = .returned (.tuple #[]) ∧ ∃ A', XAt w0 w' xb A' (x.put ⟨109, fe, fq, flText (x.fr.map PF.line)⟩) := by
  have HX := Lib.hid h
  have HS := Lib.hid (fun (c : Nat) (w' : World) (b : Below w.heap.size w w') (hh : Has E w0 c) => hh.below (below_trans' h.rest.bel b))
  have LI := Lib.hid (fun (w' : World) (b : Below w.heap.size w w') => fllist_yes E x.fr A.vf w' ((SliceIs.ownedK h.rest.fr).below b) hfr.okx (HS.out 2 w' b h2) (HS.out 5 w' b h5) (HS.out 8 w' b h8) (HS.out 9 w' b h9) hfr)
  have TX := Lib.hid (fun (w' : World) (b : Below w.heap.size w w') (v : Value) (hv : SliceIs w' v 3 (lcells (x.fr.map PF.line))) => fltext_yes E (x.fr.map PF.line) v w' hv hS (HS.out 2 w' b h2) (HS.out 5 w' b h5) (HS.out 8 w' b h8) (HS.out 9 w' b h9) hfr.lines)
  have PT := Lib.hid (fun (w' : World) (b : Below w.heap.size w w') => xput_any (E := E) ⟨109, fe, fq, flText (x.fr.map PF.line)⟩ (h.below b) hn (HS.out 2 w' b h2) (HS.out 4 w' b h4))
  simp only [PFr.val_is] at PT
  rw [show (((109 : UInt8).toNat : Nat) : Int) = 109 from rfl] at PT
  obtain ⟨r, hr⟩ : ∃ r, XS.put ⟨109, fe, fq, flText (x.fr.map PF.line)⟩ x = r := ⟨_, rfl⟩
  rw [hr] at PT ⊢
  generalize flText (x.fr.map PF.line) = tx at *
  have B1 := Lib.hid (wb_alloc w (.cells #[.int .u8 108, .int .i64 fe, .int .i64 fq, .string (bs d)] 55))
  have B2 := Lib.hid (B1.out.alloc B1.out.size (.cells #[.int .u8 109, .int .i64 fe, .int .i64 fq, .string ⟨#[]⟩] 55))
  have CF := Lib.hid (fun (w' : World) (b : Below w.heap.size w w') => (h.below b).cells.cs.1)
  have c0 := CF.out _ B2.out
  have HXB := Lib.hid (lt_of_block h.cells)
  have NB := Lib.hid (heap_alloc_new (w.alloc (.cells #[.int .u8 108, .int .i64 fe, .int .i64 fq, .string (bs d)] 55)) (.cells #[.int .u8 109, .int .i64 fe, .int .i64 fq, .string ⟨#[]⟩] 55))
  clear h hfr hn hS h2 h4 h5 h8 h9 HS hr
  go_enter Tryz.func41, Tryz.ntmps41
  go_wp2_with fail
  have LI2 := Lib.hid (LI.out _ B2.out)
  have hsz2 : ((w.alloc (.cells #[.int .u8 108, .int .i64 fe, .int .i64 fq, .string (bs d)] 55)).alloc (.cells #[.int .u8 109, .int .i64 fe, .int .i64 fq, .string ⟨#[]⟩] 55)).heap.size = w.heap.size + 2 := by simp
  have NB2 : ((w.alloc (.cells #[.int .u8 108, .int .i64 fe, .int .i64 fq, .string (bs d)] 55)).alloc (.cells #[.int .u8 109, .int .i64 fe, .int .i64 fq, .string ⟨#[]⟩] 55)).heap[w.heap.size + 1]? = some (.cells #[.int .u8 109, .int .i64 fe, .int .i64 fq, .string ⟨#[]⟩] 55) := by
    have := NB.out
    rw [show (w.alloc (.cells #[.int .u8 108, .int .i64 fe, .int .i64 fq, .string (bs d)] 55)).heap.size = w.heap.size + 1 by simp] at this
    exact this
  generalize (w.alloc (.cells #[.int .u8 108, .int .i64 fe, .int .i64 fq, .string (bs d)] 55)).alloc (.cells #[.int .u8 109, .int .i64 fe, .int .i64 fq, .string ⟨#[]⟩] 55) = wa at *
  have NB2 := Lib.hid NB2
  have HSZ := Lib.hid hsz2
  clear LI c0 NB CF hsz2
  refine LI2.out.mono ?_
  rintro e w1 ⟨r1, rfl, o1, b1⟩
  have B3 := Lib.hid (below_trans' B2.out b1)
  have TX3 := Lib.hid (TX.out _ B3.out _ (SliceIs.ownedK o1))
  have NB3 := Lib.hid ((b1.block _ (by have := HSZ.out; omega)).trans NB2.out)
  have hs3 : w.heap.size + 2 ≤ w1.heap.size := by have := HSZ.out; have := b1.size; omega
  clear o1 b1 LI2 TX NB2 B2 B1
  go_wp2_with fail
  refine TX3.out.mono ?_
  rintro e w2 ⟨rfl, b2⟩
  have NB4 := (b2.block _ (by omega)).trans NB3.out
  have B4 := Lib.hid (below_trans' B3.out b2)
  obtain ⟨⟨d0, d1, d2, d3⟩, _⟩ := cells4x NB4
  have q3 : w2.frozen? ⟨w.heap.size + 1, 3, none⟩ = false := by simp [World.frozen?, NB4]
  have B5 := Lib.hid (Below.setCell B4.out (p := ⟨w.heap.size + 1, 3, none⟩) (by show w.heap.size ≤ w.heap.size + 1; omega) (.string (bs tx)))
  have PT5 := Lib.hid (PT.out _ B5.out)
  clear b2 NB4 NB3 B3 TX3 PT B4 B5
  go_wp2_with fail
  refine PT5.out.mono ?_
  rintro e w3 ⟨rfl, A', hA⟩
  have HA := Lib.hid hA
  clear hA PT5
  go_wp2_with fail
  go_returns
  exact ⟨rfl, A', HA.out⟩
end
end Go.Proofs.YtdpoalbbcmkceaaGreatDoor
/- Contract of a transfer: the source's answer to a request for a file. -/
namespace Go.Proofs.YtdpoalbbcmkceaaGreatDoor
open Go.RowKit
set_option linter.unusedVariables false
theorem below_grown {w w1 w2 : World} {b : Nat} (h : Below w.heap.size w w1) (g : w1.grownBy w2 (some b)) (hb : w.heap.size ≤ b) : Below w.heap.size w w2 :=
  (Chg.of_grown g).below h (fun z hz => by subst hz; exact hb)
section
variable {E : Nat → Addr} {w0 w : World} {xb : Nat} {A : XA} {x : XS}
set_option maxRecDepth 100000 in
set_option maxHeartbeats 12800000 in
theorem xansg_any (fe fq : Int) (d n t l1 l2 data : List UInt8) (c1 c2 : Nat) (bl : List Blk) (z : Nat) (ops : List POp) (h : XAt w0 w xb A x) (hfr : FWF x.fr) (hn : x.net.length ≤ 1000000000)
    (hd : d.length ≤ 1000000) (hl1 : l1.length ≤ 1000000) (ht : t.length ≤ 1000000) (e1 : rtT d 0 = n) (e2 : rtR d 0 = l1) (e3 : rtC d 0 = c1) (e4 : rtT l1 c1 = t) (e5 : rtR l1 c1 = l2) (e6 : rtC l1 c1 = c2) (e7 : rEnd l2 c2 = 0)
    (s1 : readSg t = (bl, z, 0)) (s2 : (chk bl z).1 = 0) (hg : fgetL x.fr n = some data) (hdata : data.length ≤ 4000) (ho : mkOps bl z data = ops) (hc : (dtC ops).1 = 0) (ho1 : ops.length ≤ 1000000) (ho2 : (opsT ops).length ≤ 100000000) (hnl : n.length ≤ 1000) (hol : (dtL ops).length ≤ 20000)
    (h1 : Has E w0 1) (h2 : Has E w0 2) (h3 : Has E w0 3) (h4 : Has E w0 4) (h8 : Has E w0 8) :
    Calls Tryz.prog 41 #[.pointer (some ⟨xb, 0, none⟩), .agg #[.int .u8 103, .int .i64 fe, .int .i64 fq, .string (bs d)]] w fun e w' => e = .returned (.tuple #[]) ∧ ∃ A', XAt w0 w' xb A' (x.put ⟨111, fe, fq, num n.length ++ (n ++ (num (dtL ops).length ++ dtL ops))⟩) := by
  have HX := Lib.hid h
  have HS := Lib.hid (fun (c : Nat) (w' : World) (b : Below w.heap.size w w') (hh : Has E w0 c) => hh.below (below_trans' h.rest.bel b))
  have H1 := Lib.hid (fun w' b => HS.out 1 w' b h1)
  have H2 := Lib.hid (fun w' b => HS.out 2 w' b h2)
  have H3 := Lib.hid (fun w' b => HS.out 3 w' b h3)
  have H4 := Lib.hid (fun w' b => HS.out 4 w' b h4)
  have H8 := Lib.hid (fun w' b => HS.out 8 w' b h8)
  have GT := Lib.hid (fun (w' : World) (b : Below w.heap.size w w') => flget_any x.fr A.vf n w' ((SliceIs.ownedK h.rest.fr).below b))
  rw [hg] at GT
  have PT := Lib.hid (fun (w' : World) (b : Below w.heap.size w w') => xput_any (E := E) ⟨111, fe, fq, num n.length ++ (n ++ (num (dtL ops).length ++ dtL ops))⟩ (h.below b) hn (H2.out w' b) (H4.out w' b))
  simp only [PFr.val_is] at PT
  rw [show (((111 : UInt8).toNat : Nat) : Int) = 111 from rfl] at PT
  obtain ⟨r, hr⟩ : ∃ r, XS.put ⟨111, fe, fq, num n.length ++ (n ++ (num (dtL ops).length ++ dtL ops))⟩ x = r := ⟨_, rfl⟩
  rw [hr] at PT ⊢
  have B1 := Lib.hid (wb_alloc w (.cells #[.int .u8 103, .int .i64 fe, .int .i64 fq, .string (bs d)] 55))
  have B2 := Lib.hid (B1.out.alloc B1.out.size (.cells #[.int .u8 109, .int .i64 fe, .int .i64 fq, .string ⟨#[]⟩] 55))
  have B3 := Lib.hid (B2.out.alloc B2.out.size (.cells #[.string (bs d), .nilIface] 114))
  have CF := Lib.hid (fun (w' : World) (b : Below w.heap.size w w') => (h.below b).cells.cs.1)
  have NB := Lib.hid (heap_alloc_new (w.alloc (.cells #[.int .u8 103, .int .i64 fe, .int .i64 fq, .string (bs d)] 55)) (.cells #[.int .u8 109, .int .i64 fe, .int .i64 fq, .string ⟨#[]⟩] 55))
  clear h hfr hn h1 h2 h3 h4 h8 HS hr hg
  go_enter Tryz.func41, Tryz.ntmps41
  go_wp2_with fail
  have RA : RAt E (((w.alloc (.cells #[.int .u8 103, .int .i64 fe, .int .i64 fq, .string (bs d)] 55)).alloc (.cells #[.int .u8 109, .int .i64 fe, .int .i64 fq, .string ⟨#[]⟩] 55)).alloc (.cells #[.string (bs d), .nilIface] 114)) (w.heap.size + 1 + 1) d 0 := by
    have := heap_alloc_new ((w.alloc (.cells #[.int .u8 103, .int .i64 fe, .int .i64 fq, .string (bs d)] 55)).alloc (.cells #[.int .u8 109, .int .i64 fe, .int .i64 fq, .string ⟨#[]⟩] 55)) (.cells #[.string (bs d), .nilIface] 114)
    rw [show ((w.alloc (.cells #[.int .u8 103, .int .i64 fe, .int .i64 fq, .string (bs d)] 55)).alloc (.cells #[.int .u8 109, .int .i64 fe, .int .i64 fq, .string ⟨#[]⟩] 55)).heap.size = w.heap.size + 1 + 1 by simp] at this
    unfold RAt
    rw [ev_zero]
    exact this
  have OA : (((w.alloc (.cells #[.int .u8 103, .int .i64 fe, .int .i64 fq, .string (bs d)] 55)).alloc (.cells #[.int .u8 109, .int .i64 fe, .int .i64 fq, .string ⟨#[]⟩] 55)).alloc (.cells #[.string (bs d), .nilIface] 114)).heap[w.heap.size + 1]? = some (.cells #[.int .u8 109, .int .i64 fe, .int .i64 fq, .string ⟨#[]⟩] 55) := by
    have h0 := NB.out
    rw [show (w.alloc (.cells #[.int .u8 103, .int .i64 fe, .int .i64 fq, .string (bs d)] 55)).heap.size = w.heap.size + 1 by simp] at h0
    exact ((wb_alloc ((w.alloc (.cells #[.int .u8 103, .int .i64 fe, .int .i64 fq, .string (bs d)] 55)).alloc (.cells #[.int .u8 109, .int .i64 fe, .int .i64 fq, .string ⟨#[]⟩] 55)) (.cells #[.string (bs d), .nilIface] 114)).block _ (by simp)).trans h0
  generalize ((w.alloc (.cells #[.int .u8 103, .int .i64 fe, .int .i64 fq, .string (bs d)] 55)).alloc (.cells #[.int .u8 109, .int .i64 fe, .int .i64 fq, .string ⟨#[]⟩] 55)).alloc (.cells #[.string (bs d), .nilIface] 114) = wa at *
  have OA := Lib.hid OA
  have RA := Lib.hid RA
  have hb1 := Lib.hid (show w.heap.size ≤ w.heap.size + 1 + 1 by omega)
  have hb2 := Lib.hid (show w.heap.size ≤ w.heap.size + 1 by omega)
  have hb3 := Lib.hid (show w.heap.size + 1 ≠ w.heap.size + 1 + 1 by omega)
  generalize w.heap.size + 1 + 1 = rb at *
  generalize w.heap.size + 1 = ob at *
  have X1 := Lib.hid (rtext_any E rb d 0 wa (by omega) RA.out (H1.out _ B3.out) (H2.out _ B3.out))
  rw [e1, e2, e3] at X1
  clear B1 B2 NB
  refine X1.out.mono ?_
  rintro e w1 ⟨rfl, R1, g1⟩
  have b1 := below_grown B3.out g1 hb1.out
  have X2 := Lib.hid (rtext_any E rb l1 c1 w1 (by omega) R1 (H1.out _ b1) (H2.out _ b1))
  rw [e4, e5, e6] at X2
  have OA1 := Lib.hid ((g1.block _ (lt_of_block OA.out) (fun e => hb3.out (Option.some.inj e))).trans OA.out)
  have B4 := Lib.hid b1
  clear R1 g1 b1 X1 B3 OA RA
  go_wp2_with fail
  refine X2.out.mono ?_
  rintro e w2 ⟨rfl, R2, g2⟩
  have b2 := below_grown B4.out g2 hb1.out
  have OA2 := Lib.hid ((g2.block _ (lt_of_block OA1.out) (fun e => hb3.out (Option.some.inj e))).trans OA1.out)
  have SR := sread_any E (bs t) w2 (by rw [bs_size]; omega) (H1.out _ b2) (H2.out _ b2) (H8.out _ b2)
  rw [bs_list, s1] at SR
  simp only [ev_zero] at SR
  have SR := Lib.hid SR
  have R2 := Lib.hid R2
  have B5 := Lib.hid b2
  clear g2 b2 X2 OA1 B4
  go_wp2_with fail
  refine SR.out.mono ?_
  rintro e w3 ⟨v3, rfl, o3, b3⟩
  have O3 := Lib.hid o3
  obtain ⟨va, vc, rfl⟩ := owns_slice o3
  have R3 := Lib.hid (R2.out.below b3)
  have OA3 := Lib.hid ((b3.block _ (lt_of_block OA2.out)).trans OA2.out)
  have B6 := Lib.hid (below_trans' B5.out b3)
  have c0 := CF.out _ B6.out
  have G3 := Lib.hid (GT.out _ B6.out)
  clear o3 b3 SR R2 OA2 B5 GT
  go_wp2_with fail
  refine G3.out.mono ?_
  rintro e w4 ⟨rfl, b4⟩
  have R4 := R3.out.below b4
  have OA4 := Lib.hid ((b4.block _ (lt_of_block OA3.out)).trans OA3.out)
  have B7 := Lib.hid (below_trans' B6.out b4)
  have O4 := Lib.hid (owns_below O3.out b4)
  have R4b := Lib.hid (show w4.heap[rb]? = some (.cells #[.string (bs l2), ev E c2] 114 (0, 0)) from R4)
  have EN := rend_any E rb l2 c2 w4 R4 (H1.out _ B7.out)
  rw [e7, ev_zero] at EN
  have EN := Lib.hid EN
  clear b4 R3 R4 OA3 O3 B6 G3 c0
  go_wp2_with fail
  refine EN.out.mono ?_
  rintro e w5 ⟨rfl, R5, g5⟩
  have b5 := below_grown B7.out g5 hb1.out
  have OA5 := Lib.hid ((g5.block _ (lt_of_block OA4.out) (fun e => hb3.out (Option.some.inj e))).trans OA4.out)
  have O5 := own_other O4.out (Chg.of_grown g5) (fun y hy e => own_ne O4.out R4b.out (by decide) (by rw [hy, e]))
  have MK := make_any E va bl.length vc bl (z : Int) (bs data) w5 (SliceIs.ownedK O5) (H2.out _ b5) (H8.out _ b5) s2 (by rw [bs_size]; exact hdata)
  rw [bs_list, Int.toNat_natCast, ho] at MK
  have MK := Lib.hid MK
  have B8 := Lib.hid b5
  clear g5 b5 R5 O5 O4 OA4 EN B7 R4b
  go_wp2_with fail
  refine MK.out.mono ?_
  rintro e w6 ⟨v6, rfl, o6, b6⟩
  have B9 := Lib.hid (below_trans' B8.out b6)
  have OA6 := Lib.hid ((b6.block _ (lt_of_block OA5.out)).trans OA5.out)
  obtain ⟨ua, uc, rfl⟩ := owns_slice o6
  have TX := Lib.hid (dtext_any E ua ops.length uc ops w6 (SliceIs.ownedK o6) (H2.out _ B9.out) (H3.out _ B9.out) (H4.out _ B9.out) ho1 ho2)
  clear o6 b6 MK OA5 B8
  go_wp2_with fail
  refine TX.out.mono ?_
  rintro e w7 ⟨v7, rfl, fe7, b7⟩
  rw [hc] at fe7
  obtain rfl := fe7.zero
  have B10 := Lib.hid (below_trans' B9.out b7)
  have OA7 := Lib.hid ((b7.block _ (lt_of_block OA6.out)).trans OA6.out)
  clear fe7 b7 TX B9 OA6
  generalize hdt : dtL ops = dt at *
  go_wp2_with fail
  have W0 := WAt.new E w7
  have B11 := Lib.hid (B10.out.alloc B10.out.size (.cells #[.slice none 0 0, .nilIface] 128))
  have hl4 : w7.heap.size < (w7.alloc (.cells #[.slice none 0 0, .nilIface] 128)).heap.size := by simp
  have hw3 : w.heap.size ≤ w7.heap.size := B10.out.size
  have OA8 := Lib.hid (((wb_alloc w7 (.cells #[.slice none 0 0, .nilIface] 128)).block _ (lt_of_block OA7.out)).trans OA7.out)
  have hob : ob < w7.heap.size := lt_of_block OA7.out
  generalize w7.alloc (.cells #[.slice none 0 0, .nilIface] 128) = w8 at *
  generalize w7.heap.size = wb at *
  refine (wtext_ok E wb [] (bs n) w8 (by simp) W0 (H2.out _ B11.out) (by rw [bs_size]; omega)).mono ?_
  rintro e w9 ⟨rfl, W5, k5⟩
  have B12 := Lib.hid (k5.old B11.out hw3 hl4)
  have OA9 := Lib.hid (k5.obj OA8.out (by omega) (by decide))
  rw [bs_size, bs_list, List.nil_append] at W5
  clear W0 k5 B11 hl4 OA8 OA7 B10
  go_wp2_with fail
  refine (wtext_ok E wb _ (bs dt) w9 (by rw [List.length_append]; have := num_len n.length; omega) W5 (H2.out _ B12.out) (by rw [bs_size]; exact hol)).mono ?_
  rintro e w10 ⟨rfl, W6, k6⟩
  have B13 := Lib.hid (k6.old B12.out hw3 W5.lt)
  have OA10 := Lib.hid (k6.obj OA9.out (by omega) (by decide))
  rw [bs_size, bs_list] at W6
  clear W5 k6 B12 OA9
  go_wp2_with fail
  refine (wdone_any E wb _ 0 w10 (fun _ => by rw [List.length_append, List.length_append]; have := num_pos n.length; omega) W6).mono ?_
  rintro e w11 ⟨rfl, d7⟩
  rw [doneL_zero, ev_zero]
  have b11 := d7.below w10.heap.size
  have OA11 := (b11.block _ (lt_of_block OA10.out)).trans OA10.out
  have B14 := Lib.hid (below_trans' B13.out b11)
  obtain ⟨⟨d0, d1, d2, d3⟩, q⟩ := cells4x OA11
  have q0 := q 0
  have q3 := q 3
  rw [List.append_assoc]
  generalize num n.length ++ (n ++ (num dt.length ++ dt)) = tx at *
  have B15 := Lib.hid ((Below.setCell B14.out (p := ⟨ob, 0, none⟩) hb2.out (.int .u8 111)).setCell (p := ⟨ob, 3, none⟩) hb2.out (.string (bs tx)))
  have PT5 := Lib.hid (PT.out _ B15.out)
  clear W6 d7 OA11 OA10 B13 B14 B15 PT q b11
  go_wp2_with fail
  refine PT5.out.mono ?_
  rintro e w12 ⟨rfl, A', hA⟩
  have HA := Lib.hid hA
  clear hA PT5
  go_wp2_with fail
  go_returns
  exact ⟨rfl, A', HA.out⟩
end
end Go.Proofs.YtdpoalbbcmkceaaGreatDoor
/- The closures of a transfer: a line of a name. -/
namespace Go.Proofs.YtdpoalbbcmkceaaGreatDoor
open Go.RowKit
set_option linter.unusedVariables false
theorem enterGiv : ∀ args w, (callFunc 102 args).run Tryz.prog w = .ok (.enter 102 args) w := enters_of Tryz.func102 (by kernel_rfl) rfl
set_option maxRecDepth 100000 in
set_option maxHeartbeats 3200000 in
theorem given1_any (y : PL) (n : List UInt8) (b : Nat) (w : World) (hc : w.cell? ⟨b, 0, none⟩ = some (.string (bs n))) :
    Calls Tryz.prog 102 #[.agg #[.string (bs y.n), .int .i64 y.N, .int .u32 y.S], .pointer (some ⟨b, 0, none⟩)] w fun e w' => e = .returned (.bool (y.n == n)) ∧ Below w.heap.size w w' := by
  have hb : b < w.heap.size := World.block_lt_of_cell? w _ hc
  have hne : b ≠ w.heap.size := by omega
  have HB := Lib.hid (wb_alloc w (.cells #[.string (bs y.n), .int .i64 y.N, .int .u32 y.S] 39))
  have HE := Lib.hid (show ((bs y.n).toList == (bs n).toList) = (y.n == n) by rw [bs_tl', bs_tl'])
  go_enter Tryz.func102, Tryz.ntmps102
  go_wp2_with fail
  go_ret
  exact ⟨by rw [← HE.out]; rfl, HB.out⟩
theorem enterPut2 : ∀ args w, (callFunc 126 args).run Tryz.prog w = .ok (.enter 126 args) w := enters_of Tryz.func126 (by kernel_rfl) rfl
set_option maxRecDepth 100000 in
set_option maxHeartbeats 3200000 in
theorem put211_any (y : PL) (n : List UInt8) (b : Nat) (w : World) (hc : w.cell? ⟨b, 0, none⟩ = some (.string (bs n))) :
    Calls Tryz.prog 126 #[.agg #[.string (bs y.n), .int .i64 y.N, .int .u32 y.S], .pointer (some ⟨b, 0, none⟩)] w fun e w' => e = .returned (.bool (y.n == n)) ∧ Below w.heap.size w w' := by
  have hb : b < w.heap.size := World.block_lt_of_cell? w _ hc
  have hne : b ≠ w.heap.size := by omega
  have HB := Lib.hid (wb_alloc w (.cells #[.string (bs y.n), .int .i64 y.N, .int .u32 y.S] 39))
  have HE := Lib.hid (show ((bs y.n).toList == (bs n).toList) = (y.n == n) by rw [bs_tl', bs_tl'])
  go_enter Tryz.func126, Tryz.ntmps126
  go_wp2_with fail
  go_ret
  exact ⟨by rw [← HE.out]; rfl, HB.out⟩
end Go.Proofs.YtdpoalbbcmkceaaGreatDoor
/- slices.IndexFunc at lines. -/
namespace Go.Proofs.YtdpoalbbcmkceaaGreatDoor
open Go.RowKit
set_option linter.unusedVariables false
set_option maxRecDepth 100000 in
set_option maxHeartbeats 3200000 in
theorem ixLine_any (p : PL → Bool) (fn : Nat) (lb : Array Value) (eg : ∀ args w, (callFunc fn args).run Tryz.prog w = .ok (.enter fn args) w) (s : Option Addr) (n c : Nat) (l : List PL) (w : World)
    (hl : SliceIs w (.slice s n c) 3 (lcells l)) (hp : ∀ (W : World) (x : PL), x ∈ l → Below w.heap.size w W → Calls Tryz.prog fn (#[.agg #[.string (bs x.n), .int .i64 x.N, .int .u32 x.S]] ++ lb) W fun e w' => e = .returned (.bool (p x)) ∧ Below W.heap.size W w') :
    Calls Tryz.prog 101 #[.slice s n c, .func (.func fn) #[] lb] w fun e w' => e = .returned (.int .i64 (ixI 0 p l)) ∧ Below w.heap.size w w' := by
  have hlen : l.length = n ∧ c ≤ maxLen ∧ n ≤ c := by
    obtain ⟨s0', n0', c0', e1, e2, e3, e4, _⟩ := hl.get
    cases e1
    rw [lcells_len] at e2
    exact ⟨by omega, e4, e3⟩
  obtain ⟨rfl, hc0, hc1⟩ := hlen
  unfold maxLen at hc0
  have HLS := Lib.hid hl
  have HP := Lib.hid hp
  have HI := Lib.hid (ixI_start p l)
  generalize ixI 0 p l = r at *
  clear hl hp
  go_enter Tryz.func101, Tryz.ntmps101
  go_wp2_with fail
  go_loopw [8, 5] (fun i _ wr => ∃ k : Nat, i = .int .i64 k ∧ k ≤ l.length ∧ r = ixI k p (l.drop k) ∧ Below w.heap.size w wr) (fun i _ _ => l.length - (intOf i).toNat)
  case atStart => exact ⟨0, rfl, by omega, HI.out, Below.refl _ _⟩
  case round =>
    obtain ⟨k, rfl, hk, hr, bel⟩ := hrel
    have HR := Lib.hid hr
    clear hr
    by_cases hlt : k < l.length
    · have hltI : (k : Int) < l.length := by omega
      obtain ⟨s0', n0', c0', e1, _, _, _, g1⟩ := (HLS.out.below bel).get
      cases e1
      obtain ⟨g2, g3, g4⟩ := lcells_get l k hlt
      obtain ⟨ad, rfl, d0⟩ := g1 _ _ g2
      obtain ⟨a', e', d1⟩ := g1 _ _ g3
      cases e'
      obtain ⟨a'', e'', d2⟩ := g1 _ _ g4
      cases e''
      clear g1 g2 g3 g4
      have YES := Lib.hid (fun h => HR.out.trans (ixI_yes (p := p) hlt h))
      have NO := Lib.hid (fun h => HR.out.trans (ixI_no (p := p) hlt h))
      have KK := Lib.hid (show k + 1 ≤ l.length by omega)
      have x1 : (0 : Int) ≤ k := by omega
      have x2 : (k : Int).toNat = k := by omega
      have HC := Lib.hid (HP.out wr l[k] (List.getElem_mem _) bel)
      generalize l[k] = x at d0 d1 d2 YES NO HC
      have d1 := cell_at d1
      have d2 := cell_at d2
      cases hpx : p x with
      | true =>
        rw [hpx] at HC
        have Y := Lib.hid (YES.out hpx)
        clear YES NO hpx
        go_wp2_with fail
        refine HC.out.mono ?_
        rintro e w1 ⟨rfl, b1⟩
        go_wp2_with fail
        go_ret
        exact ⟨by rw [Y.out]; rfl, below_trans' bel b1⟩
      | false =>
        rw [hpx] at HC
        have Y := Lib.hid (NO.out hpx)
        clear YES NO hpx
        go_wp2_with fail
        refine HC.out.mono ?_
        rintro e w1 ⟨rfl, b1⟩
        go_wp2_with fail
        go_roundw
        case rel => exact ⟨k + 1, by go_num, KK.out, Y.out, below_trans' bel b1⟩
        case measure => simp [intOf]; omega
    · have hltI : ¬ (k : Int) < l.length := by omega
      have Y := Lib.hid (HR.out.trans (ixI_end (p := p) (by omega : l.length ≤ k)))
      go_wp2_with fail
      go_ret
      exact ⟨by rw [Y.out]; rfl, bel⟩

theorem ix_any {α : Type} (p : α → Bool) (l : List α) : decide (0 ≤ ixI 0 p l) = l.any p := by
  rcases ixI_spec p l with ⟨h, h2⟩ | ⟨j, hj, h, h2, _⟩
  · rw [h]
    symm
    simpa using h2
  · rw [h]
    have : l.any p = true := List.any_eq_true.2 ⟨_, List.getElem_mem hj, h2⟩
    rw [this]
    simp
set_option maxRecDepth 100000 in
set_option maxHeartbeats 3200000 in
theorem hasLine_any (p : PL → Bool) (fn : Nat) (lb : Array Value) (eg : ∀ args w, (callFunc fn args).run Tryz.prog w = .ok (.enter fn args) w) (s : Option Addr) (n c : Nat) (l : List PL) (w : World)
    (hl : SliceIs w (.slice s n c) 3 (lcells l)) (hp : ∀ (W : World) (x : PL), x ∈ l → Below w.heap.size w W → Calls Tryz.prog fn (#[.agg #[.string (bs x.n), .int .i64 x.N, .int .u32 x.S]] ++ lb) W fun e w' => e = .returned (.bool (p x)) ∧ Below W.heap.size W w') :
    Calls Tryz.prog 125 #[.slice s n c, .func (.func fn) #[] lb] w fun e w' => e = .returned (.bool (l.any p)) ∧ Below w.heap.size w w' := by
  have IX := Lib.hid (ixLine_any p fn lb eg s n c l w hl hp)
  have HA := Lib.hid (ix_any p l)
  generalize ixI 0 p l = r at *
  clear hl hp
  go_enter Tryz.func125, Tryz.ntmps125
  go_wp2_with fail
  refine IX.out.mono ?_
  rintro e w1 ⟨rfl, b1⟩
  have B1 := Lib.hid b1
  clear b1 IX
  go_wp2_with fail
  go_ret
  exact ⟨by rw [← HA.out]; rfl, B1.out⟩
end Go.Proofs.YtdpoalbbcmkceaaGreatDoor
/- Contract of a transfer: put2: a file of the destination, with room for it. -/
namespace Go.Proofs.YtdpoalbbcmkceaaGreatDoor
open Go.RowKit
set_option linter.unusedVariables false
theorem enterPut21 : ∀ args w, (callFunc 124 args).run Tryz.prog w = .ok (.enter 124 args) w := enters_of Tryz.func124 (by kernel_rfl) rfl
set_option maxRecDepth 100000 in
set_option maxHeartbeats 3200000 in
theorem put21_any (f : PF) (pb xb : Nat) (vl : Value) (ln : List PL) (w : World) (hp : w.cell? ⟨pb, 0, none⟩ = some (.pointer (some ⟨xb, 0, none⟩))) (hc : w.cell? ⟨xb, 12, none⟩ = some vl) (hl : SliceIs w vl 3 (lcells ln)) :
    Calls Tryz.prog 124 #[.agg #[.string (bs f.n), .string (bs f.d)], .pointer (some ⟨pb, 0, none⟩)] w fun e w' => e = .returned (.bool (!(ln.any fun y => y.n == f.n))) ∧ Below w.heap.size w w' := by
  obtain ⟨s, n, c, rfl, _⟩ := hl.get
  have hpb : pb < w.heap.size := World.block_lt_of_cell? w _ hp
  have hxb : xb < w.heap.size := World.block_lt_of_cell? w _ hc
  have HB := Lib.hid (wb_alloc w (.cells #[.string (bs f.n), .string (bs f.d)] 49))
  have hcell : (w.alloc (.cells #[.string (bs f.n), .string (bs f.d)] 49)).cell? ⟨w.heap.size, 0, none⟩ = some (.string (bs f.n)) := by simp
  have CF := Lib.hid (hasLine_any (fun y => y.n == f.n) 126 #[.pointer (some ⟨w.heap.size, 0, none⟩)] enterPut2 s n c ln (w.alloc (.cells #[.string (bs f.n), .string (bs f.d)] 49)) (hl.below HB.out) (fun W x _ hb => put211_any x f.n w.heap.size W ((hb.cell (by simp)).trans hcell)))
  generalize (ln.any fun y => y.n == f.n) = r at *
  clear hl hcell
  go_enter Tryz.func124, Tryz.ntmps124
  go_wp2_with fail
  refine CF.out.mono ?_
  rintro e w1 ⟨rfl, b1⟩
  have B1 := Lib.hid (below_trans' HB.out b1)
  clear b1 CF HB
  go_wp2_with fail
  go_ret
  exact ⟨rfl, B1.out⟩
theorem flput_well (E : Nat → Addr) (l : List PF) (v : Value) (n d : List UInt8) (w : World) (hl : SliceIs w v 2 (fcells l)) (hf : FWF l) (hok : FWF (fputL l n d)) (hd : d.length ≤ 4000) (hn : n.length ≤ 1000) (hB : Has E w 2) (hN : Has E w 5) (hF : Has E w 8) (hO : Has E w 9) :
    Calls Tryz.prog 127 #[v, .string (bs n), .string (bs d)] w fun e w' => ∃ r, e = .returned (.tuple #[r, .nilIface]) ∧ w'.ownsRow w.heap.size 49 2 r (fputL l n d).length (fcells (fputL l n d)) ∧ Below w.heap.size w w' := by
  have h0 := (flFault_wf _).2 hok
  have h1 : d.length ≤ maxLen := by unfold maxLen; omega
  have h2 : n.length ≤ maxLen := by unfold maxLen; omega
  cases hg : fgetL l n with
  | none =>
    refine (flput_new E l v n d w hl hf.okx h1 h2 hB hN hF hO hf hg).mono ?_
    rintro e w1 ⟨r, er, rfl, fe, ho, _, b1⟩
    rw [h0] at fe
    rw [fe.zero]
    exact ⟨r, rfl, ho h0, b1⟩
  | some d0 =>
    refine (flput_there E l v n d w hl hf.okx h1 h2 hB hN hF hO hf (by rw [hg]; rfl)).mono ?_
    rintro e w1 ⟨r, er, rfl, fe, ho, _, b1⟩
    rw [h0] at fe
    rw [fe.zero]
    exact ⟨r, rfl, ho h0, b1⟩
section
variable {E : Nat → Addr} {w0 w : World} {xb : Nat} {A : XA} {x : XS}
set_option maxRecDepth 100000 in
set_option maxHeartbeats 12800000 in
theorem xput2_any (n d : List UInt8) (h : XAt w0 w xb A x) (htt : FWF x.tt) (hok : FWF (fputL x.room n d)) (hd : d.length ≤ 4000) (hn : n.length ≤ 1000) (h2 : Has E w0 2) (h5 : Has E w0 5) (h8 : Has E w0 8) (h9 : Has E w0 9) :
    Calls Tryz.prog 104 #[.pointer (some ⟨xb, 0, none⟩), .string (bs n), .string (bs d)] w fun e w' => ∃ r, e = .returned (.tuple #[r, .nilIface]) ∧ w'.ownsRow w.heap.size 49 2 r (fputL x.room n d).length (fcells (fputL x.room n d)) ∧ Below w.heap.size w w' := by
  have HS := Lib.hid (fun (c : Nat) (w' : World) (b : Below w.heap.size w w') (hh : Has E w0 c) => hh.below (below_trans' h.rest.bel b))
  have PT := Lib.hid (fun (l : List PF) (v : Value) (w' : World) (b : Below w.heap.size w w') (hl : SliceIs w' v 2 (fcells l)) (hf : FWF l) (hok : FWF (fputL l n d)) => flput_well E l v n d w' hl hf hok hd hn (HS.out 2 w' b h2) (HS.out 5 w' b h5) (HS.out 8 w' b h8) (HS.out 9 w' b h9))
  have c1 := h.cells.cs.2.1
  have hlx := lt_of_block h.cells
  have HX := Lib.hid h
  have hfew := htt.few
  obtain ⟨va, vc, hv⟩ := owns_slice h.rest.tt
  have HO := Lib.hid h.rest.tt
  rw [hv] at HO c1
  have B0 := Lib.hid (wb_alloc w (.cells #[.pointer (some ⟨xb, 0, none⟩)] 26))
  clear h2 h5 h8 h9 HS
  by_cases h20 : 20 ≤ x.tt.length
  · have hroom : x.room = x.tt.filter fun f => x.ln.any fun y => y.n == f.n := by unfold XS.room; rw [if_pos h20]
    rw [hroom] at hok ⊢
    have h20I : decide ((20 : Int) ≤ x.tt.length) = true := by simp; omega
    have CL := Lib.hid (flclone_any x.tt (.slice va x.tt.length vc) (w.alloc (.cells #[.pointer (some ⟨xb, 0, none⟩)] 26)) (SliceIs.ownedK (owns_below HO.out B0.out)) (by omega))
    have hpc : (w.alloc (.cells #[.pointer (some ⟨xb, 0, none⟩)] 26)).cell? ⟨w.heap.size, 0, none⟩ = some (.pointer (some ⟨xb, 0, none⟩)) := by simp
    have HPC := Lib.hid hpc
    have HOK := Lib.hid hok
    have HTT := Lib.hid (htt.filter fun f => x.ln.any fun y => y.n == f.n)
    have HRM := Lib.hid hroom
    have hsz : w.heap.size < (w.alloc (.cells #[.pointer (some ⟨xb, 0, none⟩)] 26)).heap.size := by simp
    clear h htt hok hpc hd hn hroom HO
    go_enter Tryz.func104, Tryz.ntmps104
    go_wp2_with fail
    generalize (w.alloc (.cells #[.pointer (some ⟨xb, 0, none⟩)] 26)) = w1 at *
    refine CL.out.mono ?_
    rintro e w2 ⟨r2, rfl, o2, b2⟩
    have B2 := Lib.hid (below_trans' B0.out b2)
    have hpw : w2.cell? ⟨w.heap.size, 0, none⟩ = some (.pointer (some ⟨xb, 0, none⟩)) := (b2.cell hsz).trans HPC.out
    have X2 := Lib.hid (HX.out.below B2.out)
    have DL := delFile_any fn0 fn1 (fun _ => ⟨rfl, rfl⟩) (fun f : PF => !(x.ln.any fun y => y.n == f.n)) 124 #[.pointer (some ⟨w.heap.size, 0, none⟩)] enterPut21 w1.heap.size r2 x.tt w2 o2 (fun W f _ hc => by
      have hx : ∀ b, b < w1.heap.size → ¬ RowOf r2 b := fun b hb e => by have := own_base o2 e; omega
      have hpx := World.block_lt_of_cell? w2 _ hpw
      have k1 : W.cell? ⟨w.heap.size, 0, none⟩ = some (.pointer (some ⟨xb, 0, none⟩)) := by
        have := hc.block w.heap.size hpx (hx _ hsz)
        simpa [World.cell?, this] using hpw
      have k2 := hc.block xb (lt_of_block X2.out.cells) (hx _ (by omega))
      have k3 : W.cell? ⟨xb, 12, none⟩ = some A.vl := by
        have := X2.out.cells.cs.2.2.2.2.2.2.2.2.2.2.2.2.1
        simpa [World.cell?, k2] using this
      exact put21_any f w.heap.size xb A.vl x.ln W k1 k3 (SliceIs.ownedK (own_other X2.out.rest.ln hc (fun z hz => hx z (by have := (HX.out.rest.ln.lt z hz).2; omega)))))
    have DL := Lib.hid DL
    have O2 := Lib.hid o2
    obtain ⟨ua, uc, rfl⟩ := owns_slice o2
    clear o2 b2 CL hpw
    go_wp2_with fail
    refine DL.out.mono ?_
    rintro e w3 ⟨r3, rfl, o3, _, c3⟩
    have e3 : (x.tt.filter fun f => !!(x.ln.any fun y => y.n == f.n)) = x.tt.filter fun f => x.ln.any fun y => y.n == f.n := by simp
    rw [e3] at o3
    have B3 := Lib.hid (c3.below B2.out (fun z hz => by have := own_base O2.out hz; omega))
    have P3 := Lib.hid (PT.out _ r3 w3 B3.out (SliceIs.ownedK o3) HTT.out HOK.out)
    obtain ⟨ta, tc, rfl⟩ := owns_slice o3
    clear o3 c3 DL O2 X2 PT e3
    go_wp2_with fail
    refine P3.out.mono ?_
    rintro e w4 ⟨r4, rfl, o4, b4⟩
    have O4 := Lib.hid (owns_mono' o4 B3.out.size)
    have B4 := Lib.hid (below_trans' B3.out b4)
    obtain ⟨sa, sc, rfl⟩ := owns_slice o4
    clear o4 b4 P3
    go_wp2_with fail
    go_ret2
    exact ⟨_, rfl, O4.out, B4.out⟩
  · have hroom : x.room = x.tt := by unfold XS.room; rw [if_neg h20]
    rw [hroom] at hok ⊢
    have h20I : decide ((20 : Int) ≤ x.tt.length) = false := by simp; omega
    have P1 := Lib.hid (PT.out x.tt (.slice va x.tt.length vc) _ B0.out (SliceIs.ownedK (owns_below HO.out B0.out)) htt hok)
    clear h htt hok hd hn hroom HO PT HX
    go_enter Tryz.func104, Tryz.ntmps104
    go_wp2_with fail
    refine P1.out.mono ?_
    rintro e w4 ⟨r4, rfl, o4, b4⟩
    have O4 := Lib.hid (owns_mono' o4 B0.out.size)
    have B4 := Lib.hid (below_trans' B0.out b4)
    obtain ⟨sa, sc, rfl⟩ := owns_slice o4
    clear o4 b4 P1
    go_wp2_with fail
    go_ret2
    exact ⟨_, rfl, O4.out, B4.out⟩
end
end Go.Proofs.YtdpoalbbcmkceaaGreatDoor
/- Contract of a transfer: given: a file's delta comes to the destination. -/
namespace Go.Proofs.YtdpoalbbcmkceaaGreatDoor
open Go.RowKit
set_option linter.unusedVariables false
theorem below_grownG {w w1 w2 : World} {b : Nat} (h : Below w.heap.size w w1) (g : w1.grownBy w2 (some b)) (hb : w.heap.size ≤ b) : Below w.heap.size w w2 :=
  (Chg.of_grown g).below h (fun z hz => by subst hz; exact hb)
section
variable {E : Nat → Addr} {w0 w : World} {xb : Nat} {A : XA} {x : XS}
theorem turned_chg {w w' : World} {b : Nat} (h : w.mapTurned w' b) : Chg w w' (fun x => x = b) := Chg.of_grown h.grown
/-- a name is kept among those that want all -/
theorem XAt.addFu (h : XAt w0 w xb A x) {w' : World} {n : List UInt8} (hm : FMapIs w' A.ub (x.fu.length + 1) (n :: x.fu)) (ht : w.mapTurned w' A.ub) : XAt w0 w' xb A { x with fu := n :: x.fu } := by
  have hc := turned_chg ht
  obtain ⟨es, c, hmm⟩ := h.fu.isMap
  have hr := h.rest.mapAt hc hmm h.ne h.lu
  exact ⟨(hc.block xb (lt_of_block h.cells) (fun e => cells_map h.cells hmm e)).trans h.cells, ⟨hr.fr, hr.tt, hr.nt, hr.ln, hr.gt, hr.lm, hr.bel⟩, (hc.block A.fb h.fl.lt (fun e => cells_map h.fl hmm e)).trans h.fl, hm, h.ne, h.lx, h.lf, h.lu⟩
theorem XS.gave_bad {n : List UInt8} {ops : List POp} {y : PL} (h : (whC (x.old n) (sizeN (x.old n).length) ops y.N y.S).1 ≠ 0) : x.gave n ops y = { x with fu := n :: x.fu } := by unfold XS.gave; rw [if_pos h]
theorem XS.gave_put {n : List UInt8} {ops : List POp} {y : PL} (h : (whC (x.old n) (sizeN (x.old n).length) ops y.N y.S).1 = 0) (h2 : (putF x.room n (whL (x.old n) (sizeN (x.old n).length) ops y.N y.S)).1 = 0) : x.gave n ops y = { x with tt := fputL x.room n (whL (x.old n) (sizeN (x.old n).length) ops y.N y.S) } := by
  unfold XS.gave; rw [if_neg (by simp [h]), if_pos h2]
set_option maxRecDepth 100000 in
set_option maxHeartbeats 12800000 in
theorem xgiven_any (d n t l1 l2 : List UInt8) (c1 c2 : Nat) (ops : List POp) (k : Nat) (hk : k < x.ln.length) (h : XAt w0 w xb A x) (hfu : x.fu.length ≤ 1000000) (hix : ixI 0 (fun y : PL => y.n == n) x.ln = k)
    (hd : d.length ≤ 1000000) (hl1 : l1.length ≤ 1000000) (ht : t.length ≤ 1000000) (e1 : rtT d 0 = n) (e2 : rtR d 0 = l1) (e3 : rtC d 0 = c1) (e4 : rtT l1 c1 = t) (e5 : rtR l1 c1 = l2) (e6 : rtC l1 c1 = c2) (e7 : rEnd l2 c2 = 0)
    (ho : readO t = (ops, 0)) (hnl : n.length ≤ 1000) (hold : (x.old n).length ≤ 4000) (htt : FWF x.tt) (hln : x.ln.length ≤ 1000000)
    (hput : (whC (x.old n) (sizeN (x.old n).length) ops (x.ln[k]'hk).N (x.ln[k]'hk).S).1 = 0 → FWF (fputL x.room n (whL (x.old n) (sizeN (x.old n).length) ops (x.ln[k]'hk).N (x.ln[k]'hk).S)) ∧ (putF x.room n (whL (x.old n) (sizeN (x.old n).length) ops (x.ln[k]'hk).N (x.ln[k]'hk).S)).1 = 0 ∧ (whL (x.old n) (sizeN (x.old n).length) ops (x.ln[k]'hk).N (x.ln[k]'hk).S).length ≤ 4000)
    (h1 : Has E w0 1) (h2 : Has E w0 2) (h3 : Has E w0 3) (h4 : Has E w0 4) (h5 : Has E w0 5) (h6 : Has E w0 6) (h8 : Has E w0 8) (h9 : Has E w0 9) (h10 : Has E w0 10) :
    Calls Tryz.prog 72 #[.pointer (some ⟨xb, 0, none⟩), .string (bs d)] w fun e w' => e = .returned (.tuple #[]) ∧ ∃ A', XAt w0 w' xb A' (x.gave n ops (x.ln[k]'hk)) := by
  have HX := Lib.hid h
  have HS := Lib.hid (fun (c : Nat) (w' : World) (b : Below w.heap.size w w') (hh : Has E w0 c) => hh.below (below_trans' h.rest.bel b))
  have H1 := Lib.hid (fun w' b => HS.out 1 w' b h1)
  have H2 := Lib.hid (fun w' b => HS.out 2 w' b h2)
  have H3 := Lib.hid (fun w' b => HS.out 3 w' b h3)
  have H4 := Lib.hid (fun w' b => HS.out 4 w' b h4)
  have H6 := Lib.hid (fun w' b => HS.out 6 w' b h6)
  have H8 := Lib.hid (fun w' b => HS.out 8 w' b h8)
  have H10 := Lib.hid (fun w' b => HS.out 10 w' b h10)
  obtain ⟨o, hoe⟩ : ∃ o, x.old n = o := ⟨_, rfl⟩
  obtain ⟨z, hz⟩ : ∃ z, sizeN (o.length : Int) = z := ⟨_, rfl⟩
  have hold2 : x.old n = if x.fu.contains n then [] else (fgetL x.tt n).getD [] := rfl
  rw [hoe] at hold hold2 hput
  rw [hz] at hput
  have GT := Lib.hid (fun (w' : World) (b : Below w.heap.size w w') => flget_any x.tt A.vt n w' ((SliceIs.ownedK h.rest.tt).below b))
  have LK := Lib.hid (fun (w' : World) (b : Below w.heap.size w w') => (h.below b).fu.look (k := n) (by unfold maxLen; omega))
  have CS := Lib.hid (fun (w' : World) (b : Below w.heap.size w w') => (h.below b).cells.cs)
  have SZ := Lib.hid (fun w' => size_any (o.length : Int) w')
  rw [hz] at SZ
  have GB := Lib.hid (fun h => XS.gave_bad (x := x) (n := n) (ops := ops) (y := x.ln[k]'hk) h)
  have GP := Lib.hid (fun h h' => XS.gave_put (x := x) (n := n) (ops := ops) (y := x.ln[k]'hk) h h')
  rw [hoe, hz] at GB GP
  obtain ⟨g, cap, hlv, hc1, hc2⟩ := own_is h.rest.ln (by omega)
  have HO := h.rest.ln
  rw [hlv] at HO
  obtain ⟨k0, k1, k2⟩ := lcells_get x.ln k hk
  have hlen3 := lcells_len x.ln
  have d0 := HO.cellAt (k * 3) (by omega)
  have d1 := HO.cellAt (k * 3 + 1) (by omega)
  have d2 := HO.cellAt (k * 3 + 2) (by omega)
  rw [k0] at d0
  rw [k1] at d1
  rw [k2] at d2
  have HLN := Lib.hid (fun (w' : World) (b : Below w.heap.size w w') => (SliceIs.ownedK HO).below b)
  have y1 : (0 : Int) ≤ k := by omega
  have y2 : (k : Int).toNat = k := by omega
  have y3 : (k : Int) < x.ln.length := by omega
  obtain ⟨y, hy⟩ : ∃ y, x.ln[k]'hk = y := ⟨_, rfl⟩
  rw [hy] at d0 d1 d2 GB GP hput ⊢
  have DC := Lib.hid (fun (w' : World) (b : Below w.heap.size w w') => (⟨(b.cell (World.block_lt_of_cell? w _ d1)).trans d1, (b.cell (World.block_lt_of_cell? w _ d2)).trans d2⟩ : w'.cell? ⟨g, k * 3 + 1, none⟩ = some (.int .i64 y.N) ∧ w'.cell? ⟨g, k * 3 + 2, none⟩ = some (.int .u32 y.S)))
  have CL := Lib.hid (fun (w' : World) (b : Below w.heap.size w w') => (h.below b).cells.cs.2.2.2.2.2.2.2.2.2.2.2.2.1)
  rw [hlv] at CL
  have PT := Lib.hid (fun (w' : World) (v : List UInt8) (b : Below w.heap.size w w') (hok : FWF (fputL x.room n v)) (hv : v.length ≤ 4000) => xput2_any (E := E) n v (h.below b) htt hok hv hnl h2 h5 h8 h9)
  have ST := Lib.hid (fun (w' : World) (b : Below w.heap.size w w') => (h.below b).fu.store (k := n) (by unfold maxLen; omega) (by unfold maxLen; omega))
  have hoz : (bs o).size = o.length := bs_size o
  have hob : x.fu.contains n = true ∧ bs o = ⟨#[]⟩ ∨ x.fu.contains n = false ∧ bs o = bs ((fgetL x.tt n).getD []) := by
    cases hc : x.fu.contains n with
    | true => rw [hc, if_pos rfl] at hold2; exact .inl ⟨rfl, by rw [hold2, bs_nil]⟩
    | false => rw [hc, if_neg (by simp)] at hold2; exact .inr ⟨rfl, by rw [hold2]⟩
  have WH := Lib.hid (fun (w' : World) (b : Below w.heap.size w w') (s0 : Option Addr) (n0 c0 : Nat) (hl : SliceIs w' (.slice s0 n0 c0) 4 (ocells ops)) => whole_any E o z s0 n0 c0 ops y.N y.S w' hl (H2.out w' b) (H3.out w' b) (H4.out w' b) (H6.out w' b) (H8.out w' b) (H10.out w' b))
  have HPUT := Lib.hid hput
  have B0 := Lib.hid (wb_alloc w (.cells #[.string (bs d), .nilIface] 114))
  have RA : RAt E (w.alloc (.cells #[.string (bs d), .nilIface] 114)) w.heap.size d 0 := by
    have := heap_alloc_new w (.cells #[.string (bs d), .nilIface] 114)
    unfold RAt
    rw [ev_zero]
    exact this
  have X1 := Lib.hid (rtext_any E w.heap.size d 0 (w.alloc (.cells #[.string (bs d), .nilIface] 114)) (by omega) RA (H1.out _ B0.out) (H2.out _ B0.out))
  rw [e1, e2, e3] at X1
  have FL := Lib.hid hix
  clear h h1 h2 h3 h4 h5 h6 h8 h9 h10 HS htt hput hoe hz hold2 hlv HO k0 k1 k2 hlen3 d0 d1 d2 hy RA e1 e2 e3 hix
  go_enter Tryz.func72, Tryz.ntmps72
  go_wp2_with fail
  generalize w.alloc (.cells #[.string (bs d), .nilIface] 114) = wa at *
  refine X1.out.mono ?_
  rintro e w1 ⟨rfl, R1, g1⟩
  have b1 := below_grownG B0.out g1 (Nat.le_refl _)
  have X2 := Lib.hid (rtext_any E w.heap.size l1 c1 w1 (by omega) R1 (H1.out _ b1) (H2.out _ b1))
  rw [e4, e5, e6] at X2
  have B1 := Lib.hid b1
  clear R1 g1 b1 X1 B0
  go_wp2_with fail
  refine X2.out.mono ?_
  rintro e w2 ⟨rfl, R2, g2⟩
  have b2 := below_grownG B1.out g2 (Nat.le_refl _)
  have B2 := Lib.hid b2
  have R2 := Lib.hid R2
  clear g2 b2 X2 B1
  go_wp2_with fail
  have B3 := Lib.hid (B2.out.alloc B2.out.size (.cells #[.string (bs n)] 9))
  have R3 := Lib.hid (R2.out.below (wb_alloc w2 (.cells #[.string (bs n)] 9)))
  have N3 := Lib.hid (heap_alloc_new w2 (.cells #[.string (bs n)] 9))
  have HNB := Lib.hid (show w.heap.size < w2.heap.size from lt_of_block R2.out)
  have HNB2 := Lib.hid B2.out.size
  generalize w2.alloc (.cells #[.string (bs n)] 9) = w3 at *
  generalize w2.heap.size = nb at *
  have DR := dread_any E (bs t) w3 (by rw [bs_size]; omega) (H1.out _ B3.out) (H2.out _ B3.out) (H3.out _ B3.out) (H4.out _ B3.out)
  rw [bs_list, ho] at DR
  simp only [ev_zero] at DR
  have DR := Lib.hid DR
  clear B2 R2
  refine DR.out.mono ?_
  rintro e w4 ⟨v4, rfl, o4, b4⟩
  have B4 := Lib.hid (below_trans' B3.out b4)
  have R4 := Lib.hid (R3.out.below b4)
  have N4 := Lib.hid ((b4.block nb (lt_of_block N3.out)).trans N3.out)
  have O4 := Lib.hid o4
  obtain ⟨oa, oc, rfl⟩ := owns_slice o4
  have c12 := CL.out _ B4.out
  have IX := ixLine_any (fun y => y.n == n) 102 #[.pointer (some ⟨nb, 0, none⟩)] enterGiv (some ⟨g, 0, none⟩) x.ln.length cap x.ln w4 (HLN.out _ B4.out) (fun W y _ hb => given1_any y n nb W (by
    have h1 := (hb.block nb (lt_of_block N4.out)).trans N4.out
    simp [World.cell?, h1]))
  rw [FL.out] at IX
  have IX := Lib.hid IX
  clear DR o4 b4 R3 N3 B3
  go_wp2_with fail
  refine IX.out.mono ?_
  rintro e w5 ⟨rfl, b5⟩
  have B5 := Lib.hid (below_trans' B4.out b5)
  have R5 := R4.out.below b5
  have R5b := Lib.hid (show w5.heap[w.heap.size]? = some (.cells #[.string (bs l2), ev E c2] 114 (0, 0)) from R5)
  have N5 := Lib.hid ((b5.block nb (lt_of_block N4.out)).trans N4.out)
  have O5 := Lib.hid (owns_below O4.out b5)
  have EN := rend_any E w.heap.size l2 c2 w5 R5 (H1.out _ B5.out)
  rw [e7, ev_zero] at EN
  have EN := Lib.hid EN
  clear b5 R4 R5 N4 O4 B4 IX c12
  go_wp2_with fail
  refine EN.out.mono ?_
  rintro e w6 ⟨rfl, R6, g6⟩
  have B6 := Lib.hid (below_grownG B5.out g6 (Nat.le_refl _))
  have N6 := Lib.hid ((g6.block nb (lt_of_block N5.out) (fun e => by have := HNB.out; have := Option.some.inj e; omega)).trans N5.out)
  have O6 := Lib.hid (own_other O5.out (Chg.of_grown g6) (fun y hy e => own_ne O5.out R5b.out (by decide) (by rw [hy, e])))
  clear R6 g6 R5b N5 O5 B5 EN
  go_wp2_with fail
  have c1 := (CS.out _ B6.out).2.1
  have n0 : w6.cell? ⟨nb, 0, none⟩ = some (.string (bs n)) := by have := N6.out; simp [World.cell?, this]
  have S0 := And.intro c1 n0
  have S1 : w6.drew.cell? ⟨xb, 1, none⟩ = some A.vt ∧ w6.drew.cell? ⟨nb, 0, none⟩ = some (.string (bs n)) := S0
  have GT6 := Lib.hid (GT.out _ (Below.drew B6.out))
  have hxb6 := lt_of_block (HX.out.below B6.out).cells
  have KS := Lib.hid (fun (W : World) (b : Below w6.drew.heap.size w6.drew W) => (⟨(b.cell hxb6).trans S1.1, (b.cell (lt_of_block N6.out)).trans S1.2⟩ : W.cell? ⟨xb, 1, none⟩ = some A.vt ∧ W.cell? ⟨nb, 0, none⟩ = some (.string (bs n))))
  clear GT
  go_region_held3 (fun X => X.cell? ⟨xb, 1, none⟩ = some A.vt ∧ X.cell? ⟨nb, 0, none⟩ = some (.string (bs n))) (first | exact S1 | exact S0 | exact KS.out _ (by assumption)) ((go_at_call 64; refine GT6.out.mono ?_; rintro e w7 ⟨rfl, b7⟩))
  have B7 := Lib.hid (below_trans' (Below.drew B6.out) b7)
  have N7 := Lib.hid ((b7.block nb (lt_of_block N6.out)).trans N6.out)
  have O7 := Lib.hid (owns_below O6.out ((Below.drew (Below.refl _ w6)).trans b7))
  have lkN := fun m => LK.out _ (below_drewN B7.out m)
  have c14 := (CS.out _ B7.out).2.2.2.2.2.2.2.2.2.2.2.2.2.2.1
  have n0 : w7.cell? ⟨nb, 0, none⟩ = some (.string (bs n)) := by have := N7.out; simp [World.cell?, this]
  clear b7 KS S0 S1 GT6 B6 N6 O6 c1 LK
  generalize bs o = ob at *
  generalize bs ((fgetL x.tt n).getD []) = gb at *
  generalize (fgetL x.tt n).isSome = gi at *
  generalize x.fu.contains n = fc at *
  rcases hob with ⟨rfl, rfl⟩ | ⟨rfl, rfl⟩
  all_goals
    go_wp2_with fail
    go_quiet (fail)
    go_wp2_with fail
    have B8 := Lib.hid (below_drewN B7.out nq)
    have N8 := Lib.hid (show (w7.drewN nq).heap[nb]? = some (.cells #[.string (bs n)] 9 (0, 0)) from N7.out)
    have O8 := Lib.hid (owns_below O7.out (below_drewN (Below.refl _ w7) nq))
    clear B7 N7 O7 lkN c14 n0
    generalize w7.drewN nq = w8 at *
    have c12 := CL.out _ B8.out
    have DC8 := DC.out _ B8.out
    have S0 := And.intro c12 DC8
    have S1 : w8.drew.cell? ⟨xb, 12, none⟩ = some (.slice (some ⟨g, 0, none⟩) x.ln.length cap) ∧ w8.drew.cell? ⟨g, k * 3 + 1, none⟩ = some (.int .i64 y.N) ∧ w8.drew.cell? ⟨g, k * 3 + 2, none⟩ = some (.int .u32 y.S) := S0
    have KS := Lib.hid (fun (W : World) (b : Below w8.drew.heap.size w8.drew W) => (⟨(b.cell (World.block_lt_of_cell? w8 _ S0.1)).trans S1.1, (b.cell (World.block_lt_of_cell? w8 _ S0.2.1)).trans S1.2.1, (b.cell (World.block_lt_of_cell? w8 _ S0.2.2)).trans S1.2.2⟩ : W.cell? ⟨xb, 12, none⟩ = some (.slice (some ⟨g, 0, none⟩) x.ln.length cap) ∧ W.cell? ⟨g, k * 3 + 1, none⟩ = some (.int .i64 y.N) ∧ W.cell? ⟨g, k * 3 + 2, none⟩ = some (.int .u32 y.S)))
    have WH8 := Lib.hid (WH.out _ (Below.drew B8.out) oa ops.length oc ((SliceIs.ownedK O8.out).below (Below.drew (Below.refl _ w8))))
    clear WH CL DC DC8 c12
    go_region_held3 (fun X => X.cell? ⟨xb, 12, none⟩ = some (.slice (some ⟨g, 0, none⟩) x.ln.length cap) ∧ X.cell? ⟨g, k * 3 + 1, none⟩ = some (.int .i64 y.N) ∧ X.cell? ⟨g, k * 3 + 2, none⟩ = some (.int .u32 y.S)) (first | exact S1 | exact S0 | exact KS.out _ (by assumption) | assumption) ((first | (go_at_call 84; refine (SZ.out _).mono ?_; rintro e w7 ⟨rfl, rfl⟩) | (go_at_call 103; refine WH8.out.mono ?_; rintro e w9 ⟨v9, rfl, fe9, b9⟩)))
    have B9 := Lib.hid (below_trans' (Below.drew B8.out) b9)
    have N9 := Lib.hid ((b9.block nb (lt_of_block N8.out)).trans N8.out)
    have n0 : w9.cell? ⟨nb, 0, none⟩ = some (.string (bs n)) := by have := N9.out; simp [World.cell?, this]
    clear b9 KS S0 S1 WH8 B8 N8 O8
    by_cases hw : (whC o z ops y.N y.S).1 = 0
    · rw [hw] at fe9
      obtain rfl := fe9.zero
      obtain ⟨hp1, hp2, hp3⟩ := HPUT.out hw
      have GV := Lib.hid (GP.out hw hp2)
      have P9 := Lib.hid (PT.out w9 _ B9.out hp1 hp3)
      generalize whL o z ops y.N y.S = v at *
      clear fe9 hw hp1 hp2 hp3 HPUT GP GB PT ST
      go_wp2_with fail
      refine P9.out.mono ?_
      rintro e w10 ⟨r10, rfl, o10, b10⟩
      have X10 := HX.out.below (below_trans' B9.out b10)
      have X11 := Lib.hid (X10.setTo o10 (Nat.le_trans HX.out.rest.bel.size B9.out.size))
      have f1 := X10.cells.fz 1
      have c1 := X10.cells.cs.2.1
      obtain ⟨va, vc, rfl⟩ := owns_slice o10
      clear o10 b10 P9 X10 n0
      go_wp2_with fail
      go_returns
      exact ⟨rfl, _, by rw [GV.out]; exact X11.out⟩
    · have GV := Lib.hid (GB.out hw)
      obtain ⟨vt, vp, rfl⟩ := fe9.some hw
      obtain ⟨w10, st, hm10, ht10⟩ := ST.out _ (Below.drew B9.out)
      have X10 := Lib.hid ((HX.out.below (Below.drew B9.out)).addFu hm10 ht10)
      have c14 := (CS.out _ B9.out).2.2.2.2.2.2.2.2.2.2.2.2.2.2.1
      clear fe9 hw HPUT GP GB PT ST hm10 ht10
      go_wp2_with fail
      go_region_law (fail)
      all_goals
        go_wp2_with fail
        go_returns
        exact ⟨rfl, _, by rw [GV.out]; exact X10.out⟩
end
end Go.Proofs.YtdpoalbbcmkceaaGreatDoor
/- Contract of a transfer: answered: a frame that is no answer to what was asked; one that is, of lines; one that is, of a file. -/
namespace Go.Proofs.YtdpoalbbcmkceaaGreatDoor
open Go.RowKit
set_option linter.unusedVariables false
theorem bs_tokX : bs tokX = ⟨#[120]⟩ := by unfold bs tokX; rfl
theorem isame (z : Int) : (z != z) = false := by simp
theorem adC_ok {n : Nat} (h : n ≠ 0) : adC (gmap n) tokX (n : Int) = 0 := by unfold adC; rw [gmap_glk, if_neg h, if_pos rfl]
theorem adC_no {n : Nat} {e : Int} (h : e ≠ n) : adC (gmap n) tokX e ≠ 0 := by
  unfold adC
  rw [gmap_glk]
  by_cases h0 : n = 0
  · rw [if_pos h0]; decide
  · rw [if_neg h0, if_neg (fun e => h e.symm)]; decide
theorem gadmit_q {E : Nat → Addr} {w : World} {gb mb n : Nat} {m : GM} (k : List UInt8) (x : Int) (h : GtAt w gb mb n m) (hk : k.length ≤ 1000000000) (h6 : Has E w 6) (h11 : Has E w 11) :
    Calls Tryz.prog 69 #[.pointer (some ⟨gb, 0, none⟩), .string (bs k), .int .i64 x] w fun e w' => e = .returned (ev E (adC m k x)) ∧ w' = w :=
  (gadmit_any k x h hk h6 h11).mono fun e w' ⟨h1, h2⟩ => ⟨h1, h2.symm⟩
section
variable {E : Nat → Addr} {w0 w : World} {xb : Nat} {A : XA} {x : XS}
set_option maxRecDepth 100000 in
set_option maxHeartbeats 12800000 in
theorem xanswered_dn (kI fe fq : Int) (s : ByteArray) (h : XAt w0 w xb A x) (hd : x.dn = true) :
    Calls Tryz.prog 42 #[.pointer (some ⟨xb, 0, none⟩), .agg #[.int .u8 kI, .int .i64 fe, .int .i64 fq, .string s]] w fun e w' => e = .returned (.tuple #[]) ∧ ∃ A', XAt w0 w' xb A' x := by
  have HX := Lib.hid h
  have c15 := h.cells.cs.2.2.2.2.2.2.2.2.2.2.2.2.2.2.2
  rw [hd] at c15
  have hxb := lt_of_block h.cells
  clear h hd
  have B1 := Lib.hid (wb_alloc w (.cells #[.int .u8 kI, .int .i64 fe, .int .i64 fq, .string s] 55))
  go_enter Tryz.func42, Tryz.ntmps42
  go_wp2_with fail
  go_quiet (fail)
  go_wp2_with fail
  go_returns
  exact ⟨rfl, A, HX.out.below (below_drewN B1.out _)⟩
set_option maxRecDepth 100000 in
set_option maxHeartbeats 12800000 in
theorem xanswered_seq (kI fe fq : Int) (s : ByteArray) (h : XAt w0 w xb A x) (hd : x.dn = false) (hk : x.ask.k ≠ 0) (hq : fq ≠ x.ask.q) :
    Calls Tryz.prog 42 #[.pointer (some ⟨xb, 0, none⟩), .agg #[.int .u8 kI, .int .i64 fe, .int .i64 fq, .string s]] w fun e w' => e = .returned (.tuple #[]) ∧ ∃ A', XAt w0 w' xb A' x := by
  have HX := Lib.hid h
  have c15 := h.cells.cs.2.2.2.2.2.2.2.2.2.2.2.2.2.2.2
  have c6 := h.cells.cs.2.2.2.2.2.2.1
  have c8 := h.cells.cs.2.2.2.2.2.2.2.2.1
  rw [hd] at c15
  have hxb := lt_of_block h.cells
  have hkk : (((x.ask.k.toNat : Nat) : Int) == 0) = false := by
    rw [beq_eq_false_iff_ne]
    intro e
    exact hk (UInt8.toNat_inj.1 (by simpa using e))
  have hqq : (fq != x.ask.q) = true := by simpa using hq
  generalize ((x.ask.k.toNat : Nat) : Int) = kA at *
  generalize x.ask.q = qA at *
  clear h hd hk hq
  have B1 := Lib.hid (wb_alloc w (.cells #[.int .u8 kI, .int .i64 fe, .int .i64 fq, .string s] 55))
  have q0 : ∀ w, (binOp .eql 5 (.int .u8 kA) (.int .u8 0)).run Tryz.prog w = .ok (.bool false) w := by intro w; simp [go_sem, hkk]
  have q1 : ∀ w, (binOp .neq 3 (.int .i64 fq) (.int .i64 qA)).run Tryz.prog w = .ok (.bool true) w := by intro w; simp [go_sem, hqq]
  go_enter Tryz.func42, Tryz.ntmps42
  go_wp2_with fail
  go_quiet (fail)
  go_wp2_with fail
  go_returns
  exact ⟨rfl, A, HX.out.below (below_drewN B1.out _)⟩
set_option maxRecDepth 100000 in
set_option maxHeartbeats 12800000 in
theorem xanswered_old (kI fe fq : Int) (s : ByteArray) (h : XAt w0 w xb A x) (hd : x.dn = false) (hk : x.ask.k ≠ 0) (hq : fq = x.ask.q) (he : fe ≠ x.ge) (h6 : Has E w0 6) (h11 : Has E w0 11) :
    Calls Tryz.prog 42 #[.pointer (some ⟨xb, 0, none⟩), .agg #[.int .u8 kI, .int .i64 fe, .int .i64 fq, .string s]] w fun e w' => e = .returned (.tuple #[]) ∧ ∃ A', XAt w0 w' xb A' x := by
  have HX := Lib.hid h
  have c15 := h.cells.cs.2.2.2.2.2.2.2.2.2.2.2.2.2.2.2
  have c2 := h.cells.cs.2.2.1
  have c6 := h.cells.cs.2.2.2.2.2.2.1
  have c8 := h.cells.cs.2.2.2.2.2.2.2.2.1
  rw [hd] at c15
  have hxb := lt_of_block h.cells
  have hkk : (((x.ask.k.toNat : Nat) : Int) == 0) = false := by
    rw [beq_eq_false_iff_ne]
    intro e
    exact hk (UInt8.toNat_inj.1 (by simpa using e))
  subst hq
  have B1 := Lib.hid (wb_alloc w (.cells #[.int .u8 kI, .int .i64 fe, .int .i64 x.ask.q, .string s] 55))
  have AD := Lib.hid (fun n => gadmit_q (E := E) (w := (w.alloc (.cells #[.int .u8 kI, .int .i64 fe, .int .i64 x.ask.q, .string s] 55)).drewN n) tokX fe (h.below (below_drewN B1.out n)).rest.gt (by decide) (h6.below (h.below (below_drewN B1.out n)).rest.bel) (h11.below (h.below (below_drewN B1.out n)).rest.bel))
  rw [ev_pos E (adC_no he), bs_tokX] at AD
  generalize ((x.ask.k.toNat : Nat) : Int) = kA at *
  generalize x.ask.q = qA at *
  generalize adC (gmap x.ge) tokX fe = cc at *
  clear h hd hk h6 h11 he
  have q0 : ∀ w, (binOp .eql 5 (.int .u8 kA) (.int .u8 0)).run Tryz.prog w = .ok (.bool false) w := by intro w; simp [go_sem, hkk]
  have q1 : ∀ w, (binOp .neq 3 (.int .i64 qA) (.int .i64 qA)).run Tryz.prog w = .ok (.bool false) w := by intro w; simp [go_sem]
  go_enter Tryz.func42, Tryz.ntmps42
  go_wp2_with fail
  go_quiet ((go_at_call 69; exact Calls.quiet_of_same (AD.out _)))
  go_wp2_with fail
  go_returns
  exact ⟨rfl, A, HX.out.below (below_drewN B1.out _)⟩
set_option maxRecDepth 100000 in
set_option maxHeartbeats 12800000 in
theorem xanswered_lines (fe fq : Int) (s : ByteArray) (y1 y2 : XS) (h : XAt w0 w xb A x) (ok : FlowOk x.W x.L x.T x.G) (hd : x.dn = false) (hk : x.ask.k ≠ 0) (hq : fq = x.ask.q) (hg : x.ge ≠ 0) (he : fe = x.ge)
    (LI : ∀ w' A', XAt w0 w' xb A' x.good → Calls Tryz.prog 71 #[.pointer (some ⟨xb, 0, none⟩), .string s] w' fun e w'' => e = .returned (.tuple #[]) ∧ ∃ A'', XAt w0 w'' xb A'' y1)
    (NX : ∀ w' A', XAt w0 w' xb A' y1 → Calls Tryz.prog 36 #[.pointer (some ⟨xb, 0, none⟩)] w' fun e w'' => e = .returned (.tuple #[]) ∧ ∃ A'', XAt w0 w'' xb A'' y2) (h6 : Has E w0 6) (h11 : Has E w0 11) :
    Calls Tryz.prog 42 #[.pointer (some ⟨xb, 0, none⟩), .agg #[.int .u8 109, .int .i64 fe, .int .i64 fq, .string s]] w fun e w' => e = .returned (.tuple #[]) ∧ ∃ A', XAt w0 w' xb A' y2 := by
  have HX := Lib.hid h
  have c15 := h.cells.cs.2.2.2.2.2.2.2.2.2.2.2.2.2.2.2
  have c2 := h.cells.cs.2.2.1
  have c6 := h.cells.cs.2.2.2.2.2.2.1
  have c8 := h.cells.cs.2.2.2.2.2.2.2.2.1
  rw [hd] at c15
  have hxb := lt_of_block h.cells
  have hkk : (((x.ask.k.toNat : Nat) : Int) == 0) = false := by
    rw [beq_eq_false_iff_ne]
    intro e
    exact hk (UInt8.toNat_inj.1 (by simpa using e))
  subst hq he
  have B1 := Lib.hid (wb_alloc w (.cells #[.int .u8 109, .int .i64 x.ge, .int .i64 x.ask.q, .string s] 55))
  have N1 := Lib.hid (heap_alloc_new w (.cells #[.int .u8 109, .int .i64 x.ge, .int .i64 x.ask.q, .string s] 55))
  have AD := Lib.hid (fun n => gadmit_q (E := E) (w := (w.alloc (.cells #[.int .u8 109, .int .i64 x.ge, .int .i64 x.ask.q, .string s] 55)).drewN n) tokX x.ge (h.below (below_drewN B1.out n)).rest.gt (by decide) (h6.below (h.below (below_drewN B1.out n)).rest.bel) (h11.below (h.below (below_drewN B1.out n)).rest.bel))
  rw [adC_ok hg, ev_zero, bs_tokX] at AD
  generalize ((x.ask.k.toNat : Nat) : Int) = kA at *
  generalize x.ask.q = qA at *
  have q0 : ∀ w, (binOp .eql 5 (.int .u8 kA) (.int .u8 0)).run Tryz.prog w = .ok (.bool false) w := by intro w; simp [go_sem, hkk]
  have q1 : ∀ w, (binOp .neq 3 (.int .i64 qA) (.int .i64 qA)).run Tryz.prog w = .ok (.bool false) w := by intro w; simp [go_sem]
  have LIH := Lib.hid LI
  have NXH := Lib.hid NX
  have OK := Lib.hid ok
  clear h hd hk h6 h11 LI NX ok
  generalize x.ge = gI at *
  go_enter Tryz.func42, Tryz.ntmps42
  go_wp2_with fail
  go_quiet ((go_at_call 69; exact Calls.quiet_of_same (AD.out _)))
  have X2 := Lib.hid (HX.out.below (below_drewN B1.out nq))
  have N2 := Lib.hid (show ((w.alloc (.cells #[.int .u8 109, .int .i64 gI, .int .i64 qA, .string s] 55)).drewN nq).heap[w.heap.size]? = some (.cells #[.int .u8 109, .int .i64 gI, .int .i64 qA, .string s] 55 (0, 0)) from N1.out)
  clear AD q0 q1 c2 c6 c8 c15 B1 N1
  generalize (w.alloc (.cells #[.int .u8 109, .int .i64 gI, .int .i64 qA, .string s] 55)).drewN nq = w2 at *
  have c11 := X2.out.cells.cs.2.2.2.2.2.2.2.2.2.2.2.1
  go_wp2_with fail
  refine (good_is A.fb x.W x.L x.T x.G _ X2.out.fl OK.out).mono ?_
  rintro e w3 ⟨rfl, hf, hg3⟩
  have X3 : XAt w0 w3 xb A x.good := X2.out.flow ⟨hg3.os, hg3.tape, hg3.output, hg3.size, fun k hk hn => hg3.block k hk (fun e => hn (by cases e; rfl))⟩ hf
  have N3 := (hg3.block w.heap.size (lt_of_block N2.out) (fun e => cells_ne N2.out X2.out.fl (by decide) (Option.some.inj e))).trans N2.out
  have L3 := Lib.hid (LIH.out w3 A X3)
  obtain ⟨⟨d0, d1, d2, d3⟩, _⟩ := cells4x N3
  clear hf hg3 X2 X3 N2 LIH c11
  go_wp2_with fail
  refine L3.out.mono ?_
  rintro e w4 ⟨rfl, A4, hA4⟩
  have N4 := Lib.hid (NXH.out w4 A4 hA4)
  clear hA4 L3 NXH d0 d1 d2 d3 N3
  go_wp2_with fail
  refine N4.out.mono ?_
  rintro e w5 ⟨rfl, A5, hA5⟩
  have HA := Lib.hid hA5
  clear hA5 N4
  go_wp2_with fail
  go_returns
  exact ⟨rfl, A5, HA.out⟩
set_option maxRecDepth 100000 in
set_option maxHeartbeats 12800000 in
theorem xanswered_file (kI fe fq : Int) (s : ByteArray) (y1 y2 : XS) (h : XAt w0 w xb A x) (ok : FlowOk x.W x.L x.T x.G) (hkI : (kI == 109) = false) (hd : x.dn = false) (hk : x.ask.k ≠ 0) (hq : fq = x.ask.q) (hg : x.ge ≠ 0) (he : fe = x.ge)
    (LI : ∀ w' A', XAt w0 w' xb A' x.good → Calls Tryz.prog 72 #[.pointer (some ⟨xb, 0, none⟩), .string s] w' fun e w'' => e = .returned (.tuple #[]) ∧ ∃ A'', XAt w0 w'' xb A'' y1)
    (NX : ∀ w' A', XAt w0 w' xb A' y1 → Calls Tryz.prog 36 #[.pointer (some ⟨xb, 0, none⟩)] w' fun e w'' => e = .returned (.tuple #[]) ∧ ∃ A'', XAt w0 w'' xb A'' y2) (h6 : Has E w0 6) (h11 : Has E w0 11) :
    Calls Tryz.prog 42 #[.pointer (some ⟨xb, 0, none⟩), .agg #[.int .u8 kI, .int .i64 fe, .int .i64 fq, .string s]] w fun e w' => e = .returned (.tuple #[]) ∧ ∃ A', XAt w0 w' xb A' y2 := by
  have HX := Lib.hid h
  have c15 := h.cells.cs.2.2.2.2.2.2.2.2.2.2.2.2.2.2.2
  have c2 := h.cells.cs.2.2.1
  have c6 := h.cells.cs.2.2.2.2.2.2.1
  have c8 := h.cells.cs.2.2.2.2.2.2.2.2.1
  rw [hd] at c15
  have hxb := lt_of_block h.cells
  have hkk : (((x.ask.k.toNat : Nat) : Int) == 0) = false := by
    rw [beq_eq_false_iff_ne]
    intro e
    exact hk (UInt8.toNat_inj.1 (by simpa using e))
  subst hq he
  have B1 := Lib.hid (wb_alloc w (.cells #[.int .u8 kI, .int .i64 x.ge, .int .i64 x.ask.q, .string s] 55))
  have N1 := Lib.hid (heap_alloc_new w (.cells #[.int .u8 kI, .int .i64 x.ge, .int .i64 x.ask.q, .string s] 55))
  have AD := Lib.hid (fun n => gadmit_q (E := E) (w := (w.alloc (.cells #[.int .u8 kI, .int .i64 x.ge, .int .i64 x.ask.q, .string s] 55)).drewN n) tokX x.ge (h.below (below_drewN B1.out n)).rest.gt (by decide) (h6.below (h.below (below_drewN B1.out n)).rest.bel) (h11.below (h.below (below_drewN B1.out n)).rest.bel))
  rw [adC_ok hg, ev_zero, bs_tokX] at AD
  generalize ((x.ask.k.toNat : Nat) : Int) = kA at *
  generalize x.ask.q = qA at *
  have q0 : ∀ w, (binOp .eql 5 (.int .u8 kA) (.int .u8 0)).run Tryz.prog w = .ok (.bool false) w := by intro w; simp [go_sem, hkk]
  have q1 : ∀ w, (binOp .neq 3 (.int .i64 qA) (.int .i64 qA)).run Tryz.prog w = .ok (.bool false) w := by intro w; simp [go_sem]
  have LIH := Lib.hid LI
  have NXH := Lib.hid NX
  have OK := Lib.hid ok
  clear h hd hk h6 h11 LI NX ok
  generalize x.ge = gI at *
  go_enter Tryz.func42, Tryz.ntmps42
  go_wp2_with fail
  go_quiet ((go_at_call 69; exact Calls.quiet_of_same (AD.out _)))
  have X2 := Lib.hid (HX.out.below (below_drewN B1.out nq))
  have N2 := Lib.hid (show ((w.alloc (.cells #[.int .u8 kI, .int .i64 gI, .int .i64 qA, .string s] 55)).drewN nq).heap[w.heap.size]? = some (.cells #[.int .u8 kI, .int .i64 gI, .int .i64 qA, .string s] 55 (0, 0)) from N1.out)
  clear AD q0 q1 c2 c6 c8 c15 B1 N1
  generalize (w.alloc (.cells #[.int .u8 kI, .int .i64 gI, .int .i64 qA, .string s] 55)).drewN nq = w2 at *
  have c11 := X2.out.cells.cs.2.2.2.2.2.2.2.2.2.2.2.1
  go_wp2_with fail
  refine (good_is A.fb x.W x.L x.T x.G _ X2.out.fl OK.out).mono ?_
  rintro e w3 ⟨rfl, hf, hg3⟩
  have X3 : XAt w0 w3 xb A x.good := X2.out.flow ⟨hg3.os, hg3.tape, hg3.output, hg3.size, fun k hk hn => hg3.block k hk (fun e => hn (by cases e; rfl))⟩ hf
  have N3 := (hg3.block w.heap.size (lt_of_block N2.out) (fun e => cells_ne N2.out X2.out.fl (by decide) (Option.some.inj e))).trans N2.out
  have L3 := Lib.hid (LIH.out w3 A X3)
  obtain ⟨⟨d0, d1, d2, d3⟩, _⟩ := cells4x N3
  clear hf hg3 X2 X3 N2 LIH c11
  go_wp2_with fail
  refine L3.out.mono ?_
  rintro e w4 ⟨rfl, A4, hA4⟩
  have N4 := Lib.hid (NXH.out w4 A4 hA4)
  clear hA4 L3 NXH d0 d1 d2 d3 N3
  go_wp2_with fail
  refine N4.out.mono ?_
  rintro e w5 ⟨rfl, A5, hA5⟩
  have HA := Lib.hid hA5
  clear hA5 N4
  go_wp2_with fail
  go_returns
  exact ⟨rfl, A5, HA.out⟩
end
end Go.Proofs.YtdpoalbbcmkceaaGreatDoor
/- Contract of a transfer's New: files that are not well. -/
namespace Go.Proofs.YtdpoalbbcmkceaaGreatDoor
open Go.RowKit
set_option linter.unusedVariables false
set_option maxRecDepth 100000 in
set_option maxHeartbeats 6400000 in
theorem xnew_bad1 (E : Nat → Addr) (fr : List PF) (v1 v2 : Value) (w : World) (h1 : SliceIs w v1 2 (fcells fr)) (hd : FOk fr) (hl : fr.length ≤ 1000000) (hf : (flFault fr).1 ≠ 0) (e2 : Has E w 2) (e5 : Has E w 5) (e8 : Has E w 8) (e9 : Has E w 9) :
    Calls Tryz.prog 7 #[v1, v2] w fun e w' => ∃ er, e = .returned (.tuple #[.pointer none, er]) ∧ FErr E w' er (flFault fr).1 (flFault fr).2 ∧ Below w.heap.size w w' := by
  have C1 := Lib.hid (flcheck_any E fr v1 w h1 hd (by omega) e2 e5 e8 e9)
  have HF := Lib.hid hf
  clear h1 hd hl hf e2 e5 e8 e9
  generalize flFault fr = q at *
  go_enter Tryz.func7, Tryz.ntmps7
  go_wp2_with fail
  refine C1.out.mono ?_
  rintro e w1 ⟨r, rfl, fe, b1⟩
  obtain ⟨t, p, rfl⟩ := fe.some HF.out
  have FE := Lib.hid fe
  have B1 := Lib.hid b1
  clear fe b1 C1
  go_wp2_with fail
  go_ret2
  exact ⟨_, rfl, FE.out, B1.out⟩
set_option maxRecDepth 100000 in
set_option maxHeartbeats 6400000 in
theorem xnew_bad2 (E : Nat → Addr) (fr t : List PF) (v1 v2 : Value) (w : World) (h1 : SliceIs w v1 2 (fcells fr)) (h2 : SliceIs w v2 2 (fcells t)) (hw : FWF fr) (hd : FOk t) (hl : t.length ≤ 1000000) (hf : (flFault t).1 ≠ 0) (e2 : Has E w 2) (e5 : Has E w 5) (e8 : Has E w 8) (e9 : Has E w 9) :
    Calls Tryz.prog 7 #[v1, v2] w fun e w' => ∃ er, e = .returned (.tuple #[.pointer none, er]) ∧ FErr E w' er (flFault t).1 (flFault t).2 ∧ Below w.heap.size w w' := by
  have C1 := Lib.hid (flcheck_any E fr v1 w h1 hw.okx (by have := hw.few; omega) e2 e5 e8 e9)
  have C2 := Lib.hid (fun (w' : World) (b : Below w.heap.size w w') => flcheck_any E t v2 w' (h2.below b) hd (by omega) (e2.below b) (e5.below b) (e8.below b) (e9.below b))
  have HF := Lib.hid hf
  have Z1 := Lib.hid ((flFault_wf fr).2 hw)
  clear h1 h2 hw hd hl hf e2 e5 e8 e9
  generalize flFault t = q at *
  go_enter Tryz.func7, Tryz.ntmps7
  go_wp2_with fail
  refine C1.out.mono ?_
  rintro e w1 ⟨r, rfl, fe, b1⟩
  rw [Z1.out] at fe
  obtain rfl := fe.zero
  clear fe C1
  go_wp2_with fail
  refine (C2.out _ b1).mono ?_
  rintro e w2 ⟨r, rfl, fe, b2⟩
  obtain ⟨t, p, rfl⟩ := fe.some HF.out
  have FE := Lib.hid fe
  have B2 := Lib.hid (below_trans' b1 b2)
  clear fe b1 b2 C2
  go_wp2_with fail
  go_ret2
  exact ⟨_, rfl, FE.out, B2.out⟩
end Go.Proofs.YtdpoalbbcmkceaaGreatDoor
