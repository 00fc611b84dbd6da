/- Texts of one proof, one behind the other: XferWant, FilDrop, XferNext. -/
import Derived.Test.YtppkeophochgiaaGreatDoorB26
import Derived.Test.YtppkeophochgiaaGreatDoorB20
import Derived.Test.YtppkeophochgiaaGreatDoorB18
import Derived.Test.YtppkeophochgiaaGreatDoorB12
import Derived.Test.YtppkeophochgiaaGreatDoorB27
import Derived.Test.YtppkeophochgiaaGreatDoorB15
/- Contract of a transfer: want. -/
namespace Go.Proofs.YtppkeophochgiaaGreatDoor
open Go.RowKit
set_option linter.unusedVariables false

theorem XS.want_is (x : XS) (n : List UInt8) {o s : List UInt8} {z : Nat} (h : x.old n = o) (hz : sizeN o.length = z) (hs : sText (blks z o) z = s) : x.want n = x.asks 103 (XS.two n s) := by
  subst h hz hs; rfl
theorem sText_len (l : List Blk) (z : Nat) (hz : z ≤ 64) (hl : l.length ≤ 4000) : (sText l z).length ≤ 14 + 21 * l.length := by
  rw [sText_is, List.length_append, List.length_append]
  have h1 := num_len z
  have h2 := num_len l.length
  have h3 := bText_len l
  simp only [Int.toNat_natCast]
  omega
theorem blks_few (o : List UInt8) (ho : o.length ≤ 4000) : (blks (sizeN o.length) o).length ≤ 64 := by
  rw [blks_len]
  unfold cntOf sizeN
  (repeat' split) <;> omega
section
variable {E : Nat → Addr} {w0 w : World} {xb : Nat} {A : XA} {x : XS}
set_option maxRecDepth 100000 in
set_option maxHeartbeats 12800000 in
theorem xwant_any (n : List UInt8) (h : XAt w0 w xb A x) (hn : x.net.length ≤ 1000000000) (hq : x.sq < 65536) (hold : (x.old n).length ≤ 4000) (hnm : n.length ≤ 1000) (h2 : Has E w0 2) (h4 : Has E w0 4) (h8 : Has E w0 8) :
    Calls Tryz.prog 216 #[.pointer (some ⟨xb, 0, none⟩), .string (bs n)] w fun e w' => e = .returned (.tuple #[]) ∧ ∃ A', XAt w0 w' xb A' (x.want n) := by
  obtain ⟨o, ho⟩ : ∃ o, x.old n = o := ⟨_, rfl⟩
  obtain ⟨z, hz⟩ : ∃ z, sizeN (o.length : Int) = z := ⟨_, rfl⟩
  obtain ⟨s, hs⟩ : ∃ s, sText (blks z o) z = s := ⟨_, rfl⟩
  rw [XS.want_is x n ho hz hs]
  rw [ho] at hold
  have hz4 : 1 ≤ z ∧ z ≤ 64 := by rcases sizeN_is (o.length : Int) with h | h | h | h | h <;> omega
  have hck := blks_chk z o hz4.1 hz4.2 hold
  have hfew := blks_few o hold
  rw [hz] at hfew
  have hsl : s.length ≤ 2000 := by rw [← hs]; have := sText_len (blks z o) z hz4.2 (by omega); omega
  have hbS := blks_S z o
  have hold2 : x.old n = if x.fu.contains n then [] else (fgetL x.tt n).getD [] := rfl
  rw [ho] at hold2
  have HB2 := Lib.hid (fun (w' : World) (b : Below w.heap.size w w') => h2.below (below_trans' h.rest.bel b))
  have HB4 := Lib.hid (fun (w' : World) (b : Below w.heap.size w w') => h4.below (below_trans' h.rest.bel b))
  have HB8 := Lib.hid (fun (w' : World) (b : Below w.heap.size w w') => h8.below (below_trans' h.rest.bel b))
  have HX := Lib.hid h
  have GE := Lib.hid (flget_any x.tt A.vt n w (SliceIs.ownedK h.rest.tt))
  have LK := Lib.hid (fun (w' : World) (b : Below w.heap.size w w') => (h.below b).fu.look (k := n) (by unfold maxLen; omega))
  have CS := Lib.hid (fun (w' : World) (b : Below w.heap.size w w') => (h.below b).cells.cs)
  obtain ⟨c0, c1, _⟩ := h.cells.cs
  have SZ := Lib.hid (fun w' => size_any (o.length : Int) w')
  rw [hz] at SZ
  have OF := Lib.hid (fun w' => of_yes (bs o) z w' (by rw [bs_size]; exact hold) hz4.1 hz4.2)
  rw [bs_list] at OF
  have ST := Lib.hid (fun (w' : World) (b : Below w.heap.size w w') (s0 : Option Addr) (n0 c0 : Nat) (hl : SliceIs w' (.slice s0 n0 c0) 3 (bcells (blks z o))) => stext_yes E s0 n0 c0 (blks z o) z w' hl hbS (HB2.out w' b) (HB8.out w' b) (by rw [hck]))
  rw [hs] at ST
  have AK := Lib.hid (fun (w' : World) (b : Below w.heap.size w w') => xask_any (E := E) 103 (XS.two n s) (HX.out.below b) hn hq h2 h4)
  have htw : XS.two n s = num n.length ++ (n ++ (num s.length ++ s)) := by unfold XS.two; rw [List.append_assoc]
  obtain ⟨r, hr⟩ : ∃ r, x.asks 103 (XS.two n s) = r := ⟨_, rfl⟩
  rw [hr] at AK ⊢
  rw [htw, show (((103 : UInt8).toNat : Nat) : Int) = 103 from rfl] at AK
  clear hr htw
  have hoz : (bs o).size = o.length := bs_size o
  have hob : x.fu.contains n = true ∧ bs o = ⟨#[]⟩ ∨ x.fu.contains n = false ∧ bs o = bs ((fgetL x.tt n).getD []) := by
    cases hc : x.fu.contains n with
    | true => rw [hc, if_pos rfl] at hold2; exact .inl ⟨rfl, by rw [hold2, bs_nil]⟩
    | false => rw [hc, if_neg (by simp)] at hold2; exact .inr ⟨rfl, by rw [hold2]⟩
  clear h h2 h4 h8 ho hs hz hold2 hck hbS c0
  generalize bs o = ob at *
  generalize bs ((fgetL x.tt n).getD []) = gb at *
  generalize (fgetL x.tt n).isSome = gi at *
  generalize x.fu.contains n = fc at *
  rcases hob with ⟨rfl, rfl⟩ | ⟨rfl, rfl⟩
  all_goals
    go_enter Tryz.func216, Tryz.ntmps216
    go_wp2_with fail
    refine GE.out.mono ?_
    rintro e w1 ⟨rfl, b1⟩
    have cs := CS.out _ b1
    have lk := LK.out _ b1
    have c14 := cs.2.2.2.2.2.2.2.2.2.2.2.2.2.2.1
    clear c1 cs GE LK
    go_wp2_with fail
    refine (SZ.out _).mono ?_
    rintro e w1' ⟨rfl, rfl⟩
    clear lk c14
    go_wp2_with fail
    refine (OF.out _).mono ?_
    rintro e w2 ⟨v2, rfl, own2, b2⟩
    have B2 := Lib.hid (below_trans' b1 b2)
    obtain ⟨va, vc, rfl⟩ := owns_slice own2
    have ST2 := Lib.hid (ST.out _ B2.out _ _ _ (SliceIs.ownedK own2))
    clear b1 b2 own2 OF ST SZ CS
    go_wp2_with fail
    refine ST2.out.mono ?_
    rintro e w3 ⟨rfl, b3⟩
    have B3 := Lib.hid (below_trans' B2.out b3)
    clear b3 ST2 B2
    go_wp2_with fail
    have W0 := WAt.new E w3
    have B4 := Lib.hid (below_trans' B3.out (wb_alloc w3 (.cells #[.slice none 0 0, .nilIface] 312)))
    have hl4 : w3.heap.size < (w3.alloc (.cells #[.slice none 0 0, .nilIface] 312)).heap.size := by simp
    have hw3 : w.heap.size ≤ w3.heap.size := B3.out.size
    generalize w3.alloc (.cells #[.slice none 0 0, .nilIface] 312) = w4 at *
    generalize w3.heap.size = wb at *
    refine (wtext_ok E wb [] (bs n) w4 (by simp) W0 (HB2.out _ B4.out) (by rw [bs_size]; omega)).mono ?_
    rintro e w5 ⟨rfl, W5, k5⟩
    have B5 := Lib.hid (k5.old B4.out hw3 hl4)
    rw [bs_size, bs_list, List.nil_append] at W5
    clear W0 k5 B4 hl4
    go_wp2_with fail
    refine (wtext_ok E wb _ (bs s) w5 (by rw [List.length_append]; have := num_len n.length; omega) W5 (HB2.out _ B5.out) (by rw [bs_size]; omega)).mono ?_
    rintro e w6 ⟨rfl, W6, k6⟩
    have B6 := Lib.hid (k6.old B5.out hw3 W5.lt)
    rw [bs_size, bs_list] at W6
    clear W5 k6 B5
    go_wp2_with fail
    refine (wdone_any E wb _ 0 w6 (fun _ => by rw [List.length_append, List.length_append]; have := num_pos n.length; omega) W6).mono ?_
    rintro e w7 ⟨rfl, d7⟩
    rw [doneL_zero, ev_zero]
    have AK7 := Lib.hid (AK.out _ (below_trans' B6.out (d7.below _)))
    clear W6 d7 AK B6
    go_wp2_with fail
    refine AK7.out.mono ?_
    rintro e w8 ⟨rfl, A', hA⟩
    have HA := Lib.hid hA
    clear hA AK7
    go_wp2_with fail
    go_returns
    exact ⟨rfl, A', HA.out⟩
end
end Go.Proofs.YtppkeophochgiaaGreatDoor
/- Contracts of files.Drop, files.find. -/
namespace Go.Proofs.YtppkeophochgiaaGreatDoor
open Go.RowKit
set_option linter.unusedVariables false

theorem enterDrop : ∀ args w, (callFunc 143 args).run Tryz.prog w = .ok (.enter 143 args) w := enters_of Tryz.func143 (by kernel_rfl) rfl
set_option maxRecDepth 100000 in
set_option maxHeartbeats 1600000 in
theorem drop1_any (f : PF) (n : List UInt8) (b : Nat) (w : World) (hc : w.cell? ⟨b, 0, none⟩ = some (.string (bs n))) :
    Calls Tryz.prog 143 #[.agg #[.string (bs f.n), .string (bs f.d)], .pointer (some ⟨b, 0, none⟩)] w fun e w' => e = .returned (.bool (f.n == n)) ∧ Below w.heap.size w w' := by
  have hb : b < w.heap.size := World.block_lt_of_cell? w _ hc
  have hne : b ≠ w.heap.size := by omega
  have HB := Lib.hid (wb_alloc w (.cells #[.string (bs f.n), .string (bs f.d)] 130))
  have HE := Lib.hid (show ((bs f.n).toList == (bs n).toList) = (f.n == n) by rw [bs_tl', bs_tl'])
  go_enter Tryz.func143, Tryz.ntmps143
  go_wp2_with fail
  go_ret
  exact ⟨by rw [← HE.out]; rfl, HB.out⟩
set_option maxRecDepth 100000 in
set_option maxHeartbeats 3200000 in
theorem fldrop_any (l : List PF) (v : Value) (n : List UInt8) (w : World) (hl : SliceIs w v 2 (fcells l)) (hlen : l.length ≤ 1000000) :
    Calls Tryz.prog 104 #[v, .string (bs n)] w fun e w' => ∃ r, e = .returned r ∧ w'.ownsRow w.heap.size 130 2 r (dropL l n).length (fcells (dropL l n)) ∧ Below w.heap.size w w' := by
  have B0 := Lib.hid (below_box w (.string (bs n)) 9)
  have CL := Lib.hid (flclone_any l v _ (hl.below B0.out) hlen)
  clear hl
  go_enter Tryz.func104, Tryz.ntmps104
  go_wp2_with fail
  refine CL.out.mono ?_
  rintro e w1 ⟨r, rfl, hr, b1⟩
  have HR := Lib.hid hr
  have HB1 := Lib.hid b1
  have key := delFile_any fn0 fn1 (fun _ => ⟨rfl, rfl⟩) (fun f => f.n == n) 143 #[.pointer (some ⟨w.heap.size, 0, none⟩)] enterDrop _ r l w1 hr (fun W x hx hc =>
    drop1_any x n w.heap.size W (by
      have h0 : w1.cell? ⟨w.heap.size, 0, none⟩ = some (.string (bs n)) := (b1.cell (p := ⟨w.heap.size, 0, none⟩) (by simp)).trans (by simp)
      have hb := hc.block w.heap.size (World.block_lt_of_cell? w1 _ h0) (fun e => by have h9 := (hr.lt _ e).1; revert h9; simp)
      rw [← h0]; exact World.cell?_of_block hb))
  have KEY := Lib.hid key
  obtain ⟨va, vc, rfl⟩ := owns_slice hr
  clear hr b1 key CL
  go_wp2_with fail
  refine KEY.out.mono ?_
  rintro e w2 ⟨v', rfl, h1, h2, h3⟩
  have HH := Lib.hid h1
  have HC := Lib.hid h3
  clear h1 h2 h3 KEY
  go_wp2_with fail
  go_ret
  refine ⟨_, rfl, ?_, ?_⟩
  · exact owns_mono' HH.out B0.out.size
  · exact HC.out.below (below_trans' B0.out HB1.out) (fun x hx => by have := (HR.out.lt x hx).1; have := B0.out.size; omega)
end Go.Proofs.YtppkeophochgiaaGreatDoor
/- Contract of a transfer: next. -/
namespace Go.Proofs.YtppkeophochgiaaGreatDoor
open Go.RowKit
set_option linter.unusedVariables false

theorem find_hit {L : List PS} {j : Nat} (hj : j < L.length) (hno : ∀ i (hi : i < j), (L[i]'(by omega)).k ≠ kSend) (hk : (L[j]'hj).k = kSend) : L.find? (fun s => s.k == kSend) = some (L[j]'hj) := by
  rw [List.find?_eq_some_iff_getElem]
  exact ⟨by simpa using hk, j, hj, rfl, fun i hi => by simpa using hno i hi⟩
theorem find_miss {L : List PS} (hno : ∀ i (hi : i < L.length), (L[i]'hi).k ≠ kSend) : L.find? (fun s => s.k == kSend) = none := by
  rw [List.find?_eq_none]
  intro s hs
  obtain ⟨i, hi, rfl⟩ := List.mem_iff_getElem.1 hs
  simpa using hno i hi
theorem XS.next_ask {x : XS} (h : x.kn = false) : x.next = x.asks 108 [] := by unfold XS.next; rw [if_pos h]
theorem XS.next_want {x : XS} {p : List PS} (hp : planL x.ln (x.tt.map PF.line) = p) (h : x.kn = true) {j : Nat} (hj : j < p.length) (hno : ∀ i (hi : i < j), (p[i]'(by omega)).k ≠ kSend) (hk : (p[j]'hj).k = kSend) : x.next = x.want (p[j]'hj).n := by
  unfold XS.next
  rw [if_neg (by rw [h]; simp), hp, find_hit hj hno hk]
theorem XS.next_done {x : XS} {p : List PS} (hp : planL x.ln (x.tt.map PF.line) = p) (h : x.kn = true) (hno : ∀ i (hi : i < p.length), (p[i]'hi).k ≠ kSend) : x.next = { x with tt := dropsTo p x.tt, dn := true, ask := zfr } := by
  unfold XS.next
  rw [if_neg (by rw [h]; simp), hp, find_miss hno]
theorem FWF.okx {l : List PF} (h : FWF l) : FOk l := fun f hf => by
  have h1 := h.each f hf
  have h2 := (nameB_iff _).1 h1.1
  unfold maxLen
  exact ⟨by omega, by omega⟩
theorem plan_fine {a t : List PL} (ha : LWF a) (ht : LWF t) {s : PS} (hs : s ∈ planL a t) : s.n.length ≤ 12 ∧ (s.k = kSend ∨ s.k = kKeep ∨ s.k = kDrop) := by
  have P := planL_law ha.sorted ht.sorted
  refine ⟨?_, ?_⟩
  · rcases P.names s hs with ⟨x, hx, e⟩ | ⟨x, hx, e⟩
    · rw [← e]; exact ((nameB_iff _).1 (ha.each x hx).1).2.1
    · rw [← e]; exact ((nameB_iff _).1 (ht.each x hx).1).2.1
  · rcases P.of s hs with h | h | h
    · exact .inl h.1
    · exact .inr (.inl h.1)
    · exact .inr (.inr h.1)
section
variable {E : Nat → Addr} {w0 w : World} {xb : Nat} {A : XA} {x : XS}
/-- the destination's files change -/
theorem XAt.setTo (h : XAt w0 w xb A x) {b : Nat} {r : Value} {l : List PF} (hr : w.ownsRow b 130 2 r l.length (fcells l)) (hb : w0.heap.size ≤ b) : XAt w0 (w.setCell ⟨xb, 1, none⟩ r) xb { A with vt := r } { x with tt := l } := by
  have hc := XCell.chg w xb 1 r
  have hq := h.rest.xset h.cells h.lx 1 r
  obtain ⟨es, c, hm⟩ := h.fu.isMap
  refine ⟨h.cells.set 1 r rfl, ⟨hq.fr, own_other (owns_mono' hr hb) hc (fun z hz e => own_ne hr h.cells (by decide) (by rw [hz, e])), hq.nt, hq.ln, hq.gt, hq.lm, hq.bel⟩, ?_, ?_, h.ne, h.lx, h.lf, h.lu⟩
  · exact (hc.block A.fb h.fl.lt (cells_ne h.fl h.cells (by decide))).trans h.fl
  · exact h.fu.kept (hc.block A.ub h.fu.lt (fun e => cells_map h.cells hm e.symm))
/-- it is done -/
theorem XAt.isDone (h : XAt w0 w xb A x) : XAt w0 (((((w.setCell ⟨xb, 15, none⟩ (.bool true)).setCell ⟨xb, 6, none⟩ (.int .u8 0)).setCell ⟨xb, 7, none⟩ (.int .i64 0)).setCell ⟨xb, 8, none⟩ (.int .i64 0)).setCell ⟨xb, 9, none⟩ (.string ⟨#[]⟩)) xb A { x with dn := true, ask := zfr } := by
  have h1 := h.set 15 (.bool true) (A' := A) (x' := { x with dn := true }) rfl ⟨rfl, rfl, rfl⟩ ⟨rfl, rfl, rfl, rfl, rfl⟩ (fun w2 h => ⟨h.fr, h.tt, h.nt, h.ln, h.gt, h.lm, h.bel⟩)
  have h2 := h1.asked zfr
  rw [show bs zfr.d = ⟨#[]⟩ from bs_nil, show ((zfr.k.toNat : Nat) : Int) = 0 from rfl, show zfr.e = 0 from rfl, show zfr.q = 0 from rfl] at h2
  exact h2
set_option maxRecDepth 100000 in
set_option maxHeartbeats 6400000 in
theorem xnext_ask (h : XAt w0 w xb A x) (hkn : x.kn = false) (hn : x.net.length ≤ 1000000000) (hq : x.sq < 65536) (h2 : Has E w0 2) (h4 : Has E w0 4) :
    Calls Tryz.prog 189 #[.pointer (some ⟨xb, 0, none⟩)] w fun e w' => e = .returned (.tuple #[]) ∧ ∃ A', XAt w0 w' xb A' x.next := by
  rw [XS.next_ask hkn]
  have c13 := h.cells.cs.2.2.2.2.2.2.2.2.2.2.2.2.2.1
  rw [hkn] at c13
  have AK := Lib.hid (xask_any (E := E) 108 [] h hn hq h2 h4)
  rw [bs_nil, show (((108 : UInt8).toNat : Nat) : Int) = 108 from rfl] at AK
  obtain ⟨r, hr⟩ : ∃ r, x.asks 108 [] = r := ⟨_, rfl⟩
  rw [hr] at AK ⊢
  clear h hkn hn hq h2 h4 hr
  go_enter Tryz.func189, Tryz.ntmps189
  go_wp2_with fail
  refine AK.out.mono ?_
  rintro e w8 ⟨rfl, A', hA⟩
  have HA := Lib.hid hA
  clear hA AK c13
  go_wp2_with fail
  go_returns
  exact ⟨rfl, A', HA.out⟩
set_option maxRecDepth 100000 in
set_option maxHeartbeats 12800000 in
theorem xnext_plan (h : XAt w0 w xb A x) (hkn : x.kn = true) (hn : x.net.length ≤ 1000000000) (hq : x.sq < 65536) (hold : ∀ n, (x.old n).length ≤ 4000) (hln : LWF x.ln) (htt : FWF x.tt) (h2 : Has E w0 2) (h4 : Has E w0 4) (h5 : Has E w0 5) (h8 : Has E w0 8) (h9 : Has E w0 9) :
    Calls Tryz.prog 189 #[.pointer (some ⟨xb, 0, none⟩)] w fun e w' => e = .returned (.tuple #[]) ∧ ∃ A', XAt w0 w' xb A' x.next := by
  have HS := Lib.hid (fun (c : Nat) (w' : World) (b : Below w.heap.size w w') (hh : Has E w0 c) => hh.below (below_trans' h.rest.bel b))
  have HX := Lib.hid h
  have hxb := lt_of_block h.cells
  have c1 := h.cells.cs.2.1
  have c12 := h.cells.cs.2.2.2.2.2.2.2.2.2.2.2.2.1
  have c13 := h.cells.cs.2.2.2.2.2.2.2.2.2.2.2.2.2.1
  rw [hkn] at c13
  have LI := Lib.hid (fllist_yes E x.tt A.vt w (SliceIs.ownedK h.rest.tt) htt.okx (HS.out 2 w (Below.refl _ _) h2) (HS.out 5 w (Below.refl _ _) h5) (HS.out 8 w (Below.refl _ _) h8) (HS.out 9 w (Below.refl _ _) h9) htt)
  have C12 := Lib.hid (fun (w' : World) (b : Below w.heap.size w w') => (h.below b).cells.cs.2.2.2.2.2.2.2.2.2.2.2.2.1)
  have PL := Lib.hid (fun (w' : World) (b : Below w.heap.size w w') (v : Value) (hv : SliceIs w' v 3 (lcells (x.tt.map PF.line))) => flplan_yes E x.ln (x.tt.map PF.line) A.vl v w' ((SliceIs.ownedK h.rest.ln).below b) hv hln htt.lines (HS.out 2 w' b h2) (HS.out 5 w' b h5) (HS.out 8 w' b h8) (HS.out 9 w' b h9))
  have PFI := Lib.hid (fun s hs => plan_fine hln htt.lines (s := s) hs)
  have WN := Lib.hid (fun (w' : World) (b : Below w.heap.size w w') (n : List UInt8) (hnm : n.length ≤ 1000) => xwant_any (E := E) n (h.below b) hn hq (hold n) hnm h2 h4 h8)
  have hpl := planL_le x.ln (x.tt.map PF.line)
  have hl1 := hln.few
  have hl2 := htt.few
  have NW := Lib.hid (fun p hp j hj hno hk => XS.next_want (x := x) (p := p) hp hkn (j := j) hj hno hk)
  have ND := Lib.hid (fun p hp hno => XS.next_done (x := x) (p := p) hp hkn hno)
  rw [List.length_map] at hpl
  obtain ⟨p, hp⟩ : ∃ p, planL x.ln (x.tt.map PF.line) = p := ⟨_, rfl⟩
  rw [hp] at hpl PFI
  rw [hp] at PL
  have NW := Lib.hid (fun j hj hno hk => NW.out p hp j hj hno hk)
  have ND := Lib.hid (ND.out p hp)
  have hpm : p.length ≤ 40 := by omega
  obtain ⟨xn, hxn⟩ : ∃ xn, x.next = xn := ⟨_, rfl⟩
  rw [hxn] at NW ND ⊢
  clear hxn
  have TW := Lib.hid (show ∀ k, FWF (dropsTo (p.take k) x.tt) from fun k => htt.drops _)
  clear h h2 h4 h5 h8 h9 hkn hln htt hl1 hl2 hpl hp hn hq hold HS
  go_enter Tryz.func189, Tryz.ntmps189
  go_wp2_with fail
  refine LI.out.mono ?_
  rintro e w1 ⟨r1, rfl, o1, b1⟩
  have c12 := C12.out _ b1
  have S1 := Lib.hid (SliceIs.ownedK o1)
  have B1 := Lib.hid b1
  have PL1 := Lib.hid (PL.out _ b1 _ S1.out)
  clear LI PL c1 c13 o1 b1
  go_wp2_with fail
  refine PL1.out.mono ?_
  rintro e w2 ⟨r2, rfl, o2, b2⟩
  have B2 := Lib.hid (below_trans' B1.out b2)
  have hx1 : xb < w1.heap.size := Nat.lt_of_lt_of_le hxb B1.out.size
  have O2 := Lib.hid o2
  obtain ⟨va, vc, rfl⟩ := owns_slice o2
  clear c12 o2 b2 PL1 S1 B1 C12
  go_wp2_with fail
  go_loopw [39, 6] (fun i _ wr => ∃ k : Nat, i = .int .i64 k ∧ k ≤ p.length ∧ (∀ i (hi : i < k) (hp : i < p.length), (p[i]'hp).k ≠ kSend) ∧ Below w2.heap.size w2 wr) (fun i _ _ => p.length - (intOf i).toNat)
  case atStart => exact ⟨0, rfl, by omega, fun i hi => by omega, Below.refl _ _⟩
  case round =>
    obtain ⟨k, rfl, hk, hno, bel⟩ := hrel
    by_cases hlt : k < p.length
    · have hltI : (k : Int) < p.length := by omega
      have SP := Lib.hid (SliceIs.ownedK (owns_below O2.out bel))
      obtain ⟨s', n', c', qe, _, _, _, g1⟩ := SP.out.get
      cases qe
      obtain ⟨ad, rfl, dx⟩ := g1 _ _ (scells_get p k hlt).1
      clear dx g1
      obtain ⟨d0, d1⟩ := step_cells SP.out hlt
      obtain ⟨hn12, hB⟩ := PFI.out _ (List.getElem_mem hlt)
      have y1 : (0 : Int) ≤ k := by omega
      have y2 : (k : Int).toNat = k := by omega
      have KK := Lib.hid (show k + 1 ≤ p.length from hlt)
      have BW := Lib.hid bel
      have NWk := Lib.hid (fun hk2 => NW.out k hlt (fun i hi => hno i hi (by omega)) hk2)
      have NO := Lib.hid (fun (h3 : (p[k]'hlt).k ≠ kSend) => show ∀ i (hi : i < k + 1) (hp : i < p.length), (p[i]'hp).k ≠ kSend from fun i hi hp => by
        by_cases e : i = k
        · subst e; exact h3
        · exact hno i (by omega) hp)
      generalize p[k]'hlt = s at d0 d1 hB hn12 NWk NO
      obtain ⟨K, n⟩ := s
      simp only [] at d0 d1 hB hn12 NWk NO
      clear bel hno SP
      rcases hB with rfl | rfl | rfl
      · rw [bs_kSend] at d0
        have WN1 := Lib.hid (fun (o : Obj) => WN.out _ (below_trans' B2.out (BW.out.alloc BW.out.size o)) n (by omega))
        have NX := Lib.hid (NWk.out rfl)
        clear NWk NO NW ND PFI
        rw [← NX.out] at WN1
        clear NX
        go_wp2_with fail
        refine (WN1.out _).mono ?_
        rintro e w8 ⟨rfl, A', hA⟩
        have HA := Lib.hid hA
        clear hA WN1
        go_wp2_with fail
        go_returns
        exact ⟨rfl, A', HA.out⟩
      · rw [bs_kKeep] at d0
        have NN := Lib.hid (NO.out (by decide))
        clear NWk NO
        go_wp2_with fail
        go_roundw
        case rel => exact ⟨k + 1, by go_num, KK.out, NN.out, BW.out.alloc BW.out.size _⟩
        case measure => simp [intOf]; omega
      · rw [bs_kDrop] at d0
        have NN := Lib.hid (NO.out (by decide))
        clear NWk NO
        go_wp2_with fail
        go_roundw
        case rel => exact ⟨k + 1, by go_num, KK.out, NN.out, BW.out.alloc BW.out.size _⟩
        case measure => simp [intOf]; omega
    · have hltI : ¬ (k : Int) < p.length := by omega
      have NX := Lib.hid (ND.out (fun i hi => hno i (by omega) hi))
      have BW := Lib.hid bel
      have SW := Lib.hid (owns_below O2.out bel)
      have XW := Lib.hid (HX.out.below (below_trans' B2.out bel))
      clear bel hno NW ND WN O2 HX B2
      go_wp2_with fail
      go_loopw [53, 8] (fun i _ wr => ∃ (k : Nat) (A1 : XA), i = .int .i64 k ∧ k ≤ p.length ∧ XAt w0 wr xb A1 { x with tt := dropsTo (p.take k) x.tt } ∧ wr.ownsRow w1.heap.size 185 2 (.slice va p.length vc) p.length (scells p)) (fun i _ _ => p.length - (intOf i).toNat)
      case atStart => exact ⟨0, A, rfl, by omega, XW.out, SW.out⟩
      case round =>
        clear SW XW BW
        obtain ⟨k, A1, rfl, hk, xat, own⟩ := hrel
        by_cases hlt : k < p.length
        · have hltI : (k : Int) < p.length := by omega
          have SP := Lib.hid (SliceIs.ownedK own)
          obtain ⟨s', n', c', qe, _, _, _, g1⟩ := SP.out.get
          cases qe
          obtain ⟨ad, rfl, dx⟩ := g1 _ _ (scells_get p k hlt).1
          clear dx g1
          obtain ⟨d0, d1⟩ := step_cells SP.out hlt
          obtain ⟨hn12, hB⟩ := PFI.out _ (List.getElem_mem hlt)
          have y1 : (0 : Int) ≤ k := by omega
          have y2 : (k : Int).toNat = k := by omega
          have KK := Lib.hid (show k + 1 ≤ p.length from hlt)
          have HIT := Lib.hid (fun e => dropsTo_hit hlt e x.tt)
          have MISS := Lib.hid (fun e => dropsTo_miss hlt e x.tt)
          have WF := Lib.hid (TW.out k)
          generalize p[k]'hlt = s at d0 d1 hB hn12 HIT MISS
          obtain ⟨K, n⟩ := s
          simp only [] at d0 d1 hB hn12 HIT MISS
          generalize dropsTo (p.take k) x.tt = L at *
          have XW := Lib.hid xat
          have OW := Lib.hid own
          clear xat own SP
          rcases hB with rfl | rfl | rfl
          · have Y := Lib.hid (MISS.out (by decide))
            rw [bs_kSend] at d0
            clear HIT MISS
            go_wp2_with fail
            go_roundw
            case rel => exact ⟨k + 1, A1, by go_num, KK.out, by rw [Y.out]; exact XW.out.below (Below.alloc (Below.refl _ _) (Nat.le_refl _) _), OW.out.alloc _⟩
            case measure => simp [intOf]; omega
          · have Y := Lib.hid (MISS.out (by decide))
            rw [bs_kKeep] at d0
            clear HIT MISS
            go_wp2_with fail
            go_roundw
            case rel => exact ⟨k + 1, A1, by go_num, KK.out, by rw [Y.out]; exact XW.out.below (Below.alloc (Below.refl _ _) (Nat.le_refl _) _), OW.out.alloc _⟩
            case measure => simp [intOf]; omega
          · have Y := Lib.hid (HIT.out rfl)
            rw [bs_kDrop] at d0
            clear HIT MISS
            have XA1 := Lib.hid (XW.out.below (Below.alloc (Below.refl _ _) (Nat.le_refl _) (.cells #[.string ⟨#[100, 114, 111, 112]⟩, .string (bs n)] 185)))
            have OW1 := Lib.hid (OW.out.alloc (.cells #[.string ⟨#[100, 114, 111, 112]⟩, .string (bs n)] 185))
            have q1 : (wr.alloc (.cells #[.string ⟨#[100, 114, 111, 112]⟩, .string (bs n)] 185)).cell? ⟨wr.heap.size, 1, none⟩ = some (.string (bs n)) := by simp
            clear XW OW
            go_wp2_with fail
            generalize wr.alloc (.cells #[.string ⟨#[100, 114, 111, 112]⟩, .string (bs n)] 185) = W1 at *
            clear d0 d1
            have c1 := XA1.out.cells.cs.2.1
            have hfew := WF.out.few
            have DR := Lib.hid (fun (w' : World) (b : Below W1.heap.size W1 w') => fldrop_any L A1.vt n w' ((SliceIs.ownedK XA1.out.rest.tt).below b) (by omega))
            have HSZ := Lib.hid (XA1.out.rest.bel.size)
            go_region_law (go_simp; go_at_call 104; refine (DR.out _ (by first | exact Below.refl _ _ | exact Below.drew (Below.refl _ _))).mono ?_; rintro e w8 ⟨r8, rfl, o8, b8⟩; have X8 := Lib.hid (XA1.out.drew.below b8); have cx8 := X8.out.cells.cs.2.1; have fx8 := X8.out.cells.fz 1; have O8 := Lib.hid o8; have B8 := Lib.hid b8; obtain ⟨va8, vc8, rfl⟩ := owns_slice o8)
            all_goals
              have RX := Lib.hid (XAt.setTo X8.out O8.out (by have := HSZ.out; simp; omega))
              have RO := Lib.hid (own_other (owns_below (owns_below OW1.out (Below.drew (Below.refl _ _))) B8.out) (XCell.chg w8 xb 1 (.slice va8 (dropL L n).length vc8)) (fun z hz e => by have := own_base OW1.out hz; omega))
              clear O8 B8 X8 OW1 XA1 DR cx8 fx8
              go_wp2_with fail
              go_roundw
              case rel => exact ⟨k + 1, _, by go_num, KK.out, by rw [Y.out]; exact RX.out, RO.out⟩
              case measure => simp [intOf]; omega
        · have hltI : ¬ (k : Int) < p.length := by omega
          rw [List.take_of_length_le (by omega)] at xat
          have XD := Lib.hid xat.isDone
          have f6 := xat.cells.fz 6
          have f7 := xat.cells.fz 7
          have f8 := xat.cells.fz 8
          have f9 := xat.cells.fz 9
          have f15 := xat.cells.fz 15
          obtain ⟨c0, c1, c2, c3, c4, c5, c6, c7, c8, c9, c10, c11, c12, c13, c14, c15⟩ := xat.cells.cs
          clear xat own c0 c1 c2 c3 c4 c5 c10 c11 c12 c13 c14
          go_wp2_with fail
          go_returns
          exact ⟨rfl, A1, by rw [NX.out]; exact XD.out⟩
theorem xnext_any (h : XAt w0 w xb A x) (hn : x.net.length ≤ 1000000000) (hq : x.sq < 65536) (hold : ∀ n, (x.old n).length ≤ 4000) (hln : LWF x.ln) (htt : FWF x.tt) (h2 : Has E w0 2) (h4 : Has E w0 4) (h5 : Has E w0 5) (h8 : Has E w0 8) (h9 : Has E w0 9) :
    Calls Tryz.prog 189 #[.pointer (some ⟨xb, 0, none⟩)] w fun e w' => e = .returned (.tuple #[]) ∧ ∃ A', XAt w0 w' xb A' x.next := by
  cases hkn : x.kn with
  | false => exact xnext_ask h hkn hn hq h2 h4
  | true => exact xnext_plan h hkn hn hq hold hln htt h2 h4 h5 h8 h9
end
end Go.Proofs.YtppkeophochgiaaGreatDoor
