/- Texts of one proof, one behind the other: XferIx, XferPut2, XferGiv. -/
import Derived.Test.YtppkeophochgiaaGreatDoorB40
import Derived.Test.YtppkeophochgiaaGreatDoorB27
import Derived.Test.YtppkeophochgiaaGreatDoorB14
import Derived.Test.YtppkeophochgiaaGreatDoorB12
import Derived.Test.YtppkeophochgiaaGreatDoorB37
/- slices.IndexFunc at lines. -/
namespace Go.Proofs.YtppkeophochgiaaGreatDoor
open Go.RowKit
set_option linter.unusedVariables false
set_option maxRecDepth 100000 in
set_option maxHeartbeats 3200000 in
theorem ixLine_any (p : PL → Bool) (fn : Nat) (lb : Array Value) (eg : ∀ args w, (callFunc fn args).run Tryz.prog w = .ok (.enter fn args) w) (s : Option Addr) (n c : Nat) (l : List PL) (w : World)
    (hl : SliceIs w (.slice s n c) 3 (lcells l)) (hp : ∀ (W : World) (x : PL), x ∈ l → Below w.heap.size w W → Calls Tryz.prog fn (#[.agg #[.string (bs x.n), .int .i64 x.N, .int .u32 x.S]] ++ lb) W fun e w' => e = .returned (.bool (p x)) ∧ Below W.heap.size W w') :
    Calls Tryz.prog 255 #[.slice s n c, .func (.func fn) #[] lb] w fun e w' => e = .returned (.int .i64 (ixI 0 p l)) ∧ Below w.heap.size w w' := by
  have hlen : l.length = n ∧ c ≤ maxLen ∧ n ≤ c := by
    obtain ⟨s0', n0', c0', e1, e2, e3, e4, _⟩ := hl.get
    cases e1
    rw [lcells_len] at e2
    exact ⟨by omega, e4, e3⟩
  obtain ⟨rfl, hc0, hc1⟩ := hlen
  unfold maxLen at hc0
  have HLS := Lib.hid hl
  have HP := Lib.hid hp
  have HI := Lib.hid (ixI_start p l)
  generalize ixI 0 p l = r at *
  clear hl hp
  go_enter Tryz.func255, Tryz.ntmps255
  go_wp2_with fail
  go_loopw [8, 5] (fun i _ wr => ∃ k : Nat, i = .int .i64 k ∧ k ≤ l.length ∧ r = ixI k p (l.drop k) ∧ Below w.heap.size w wr) (fun i _ _ => l.length - (intOf i).toNat)
  case atStart => exact ⟨0, rfl, by omega, HI.out, Below.refl _ _⟩
  case round =>
    obtain ⟨k, rfl, hk, hr, bel⟩ := hrel
    have HR := Lib.hid hr
    clear hr
    by_cases hlt : k < l.length
    · have hltI : (k : Int) < l.length := by omega
      obtain ⟨s0', n0', c0', e1, _, _, _, g1⟩ := (HLS.out.below bel).get
      cases e1
      obtain ⟨g2, g3, g4⟩ := lcells_get l k hlt
      obtain ⟨ad, rfl, d0⟩ := g1 _ _ g2
      obtain ⟨a', e', d1⟩ := g1 _ _ g3
      cases e'
      obtain ⟨a'', e'', d2⟩ := g1 _ _ g4
      cases e''
      clear g1 g2 g3 g4
      have YES := Lib.hid (fun h => HR.out.trans (ixI_yes (p := p) hlt h))
      have NO := Lib.hid (fun h => HR.out.trans (ixI_no (p := p) hlt h))
      have KK := Lib.hid (show k + 1 ≤ l.length by omega)
      have x1 : (0 : Int) ≤ k := by omega
      have x2 : (k : Int).toNat = k := by omega
      have HC := Lib.hid (HP.out wr l[k] (List.getElem_mem _) bel)
      generalize l[k] = x at d0 d1 d2 YES NO HC
      have d1 := cell_at d1
      have d2 := cell_at d2
      cases hpx : p x with
      | true =>
        rw [hpx] at HC
        have Y := Lib.hid (YES.out hpx)
        clear YES NO hpx
        go_wp2_with fail
        refine HC.out.mono ?_
        rintro e w1 ⟨rfl, b1⟩
        go_wp2_with fail
        go_ret
        exact ⟨by rw [Y.out]; rfl, below_trans' bel b1⟩
      | false =>
        rw [hpx] at HC
        have Y := Lib.hid (NO.out hpx)
        clear YES NO hpx
        go_wp2_with fail
        refine HC.out.mono ?_
        rintro e w1 ⟨rfl, b1⟩
        go_wp2_with fail
        go_roundw
        case rel => exact ⟨k + 1, by go_num, KK.out, Y.out, below_trans' bel b1⟩
        case measure => simp [intOf]; omega
    · have hltI : ¬ (k : Int) < l.length := by omega
      have Y := Lib.hid (HR.out.trans (ixI_end (p := p) (by omega : l.length ≤ k)))
      go_wp2_with fail
      go_ret
      exact ⟨by rw [Y.out]; rfl, bel⟩

theorem ix_any {α : Type} (p : α → Bool) (l : List α) : decide (0 ≤ ixI 0 p l) = l.any p := by
  rcases ixI_spec p l with ⟨h, h2⟩ | ⟨j, hj, h, h2, _⟩
  · rw [h]
    symm
    simpa using h2
  · rw [h]
    have : l.any p = true := List.any_eq_true.2 ⟨_, List.getElem_mem hj, h2⟩
    rw [this]
    simp
set_option maxRecDepth 100000 in
set_option maxHeartbeats 3200000 in
theorem hasLine_any (p : PL → Bool) (fn : Nat) (lb : Array Value) (eg : ∀ args w, (callFunc fn args).run Tryz.prog w = .ok (.enter fn args) w) (s : Option Addr) (n c : Nat) (l : List PL) (w : World)
    (hl : SliceIs w (.slice s n c) 3 (lcells l)) (hp : ∀ (W : World) (x : PL), x ∈ l → Below w.heap.size w W → Calls Tryz.prog fn (#[.agg #[.string (bs x.n), .int .i64 x.N, .int .u32 x.S]] ++ lb) W fun e w' => e = .returned (.bool (p x)) ∧ Below W.heap.size W w') :
    Calls Tryz.prog 269 #[.slice s n c, .func (.func fn) #[] lb] w fun e w' => e = .returned (.bool (l.any p)) ∧ Below w.heap.size w w' := by
  have IX := Lib.hid (ixLine_any p fn lb eg s n c l w hl hp)
  have HA := Lib.hid (ix_any p l)
  generalize ixI 0 p l = r at *
  clear hl hp
  go_enter Tryz.func269, Tryz.ntmps269
  go_wp2_with fail
  refine IX.out.mono ?_
  rintro e w1 ⟨rfl, b1⟩
  have B1 := Lib.hid b1
  clear b1 IX
  go_wp2_with fail
  go_ret
  exact ⟨by rw [← HA.out]; rfl, B1.out⟩
end Go.Proofs.YtppkeophochgiaaGreatDoor
/- Contract of a transfer: put2: a file of the destination, with room for it. -/
namespace Go.Proofs.YtppkeophochgiaaGreatDoor
open Go.RowKit
set_option linter.unusedVariables false
theorem enterPut21 : ∀ args w, (callFunc 268 args).run Tryz.prog w = .ok (.enter 268 args) w := enters_of Tryz.func268 (by kernel_rfl) rfl
set_option maxRecDepth 100000 in
set_option maxHeartbeats 3200000 in
theorem put21_any (f : PF) (pb xb : Nat) (vl : Value) (ln : List PL) (w : World) (hp : w.cell? ⟨pb, 0, none⟩ = some (.pointer (some ⟨xb, 0, none⟩))) (hc : w.cell? ⟨xb, 12, none⟩ = some vl) (hl : SliceIs w vl 3 (lcells ln)) :
    Calls Tryz.prog 268 #[.agg #[.string (bs f.n), .string (bs f.d)], .pointer (some ⟨pb, 0, none⟩)] w fun e w' => e = .returned (.bool (!(ln.any fun y => y.n == f.n))) ∧ Below w.heap.size w w' := by
  obtain ⟨s, n, c, rfl, _⟩ := hl.get
  have hpb : pb < w.heap.size := World.block_lt_of_cell? w _ hp
  have hxb : xb < w.heap.size := World.block_lt_of_cell? w _ hc
  have HB := Lib.hid (wb_alloc w (.cells #[.string (bs f.n), .string (bs f.d)] 130))
  have hcell : (w.alloc (.cells #[.string (bs f.n), .string (bs f.d)] 130)).cell? ⟨w.heap.size, 0, none⟩ = some (.string (bs f.n)) := by simp
  have CF := Lib.hid (hasLine_any (fun y => y.n == f.n) 270 #[.pointer (some ⟨w.heap.size, 0, none⟩)] enterPut2 s n c ln (w.alloc (.cells #[.string (bs f.n), .string (bs f.d)] 130)) (hl.below HB.out) (fun W x _ hb => put211_any x f.n w.heap.size W ((hb.cell (by simp)).trans hcell)))
  generalize (ln.any fun y => y.n == f.n) = r at *
  clear hl hcell
  go_enter Tryz.func268, Tryz.ntmps268
  go_wp2_with fail
  refine CF.out.mono ?_
  rintro e w1 ⟨rfl, b1⟩
  have B1 := Lib.hid (below_trans' HB.out b1)
  clear b1 CF HB
  go_wp2_with fail
  go_ret
  exact ⟨rfl, B1.out⟩
theorem flput_well (E : Nat → Addr) (l : List PF) (v : Value) (n d : List UInt8) (w : World) (hl : SliceIs w v 2 (fcells l)) (hf : FWF l) (hok : FWF (fputL l n d)) (hd : d.length ≤ 4000) (hn : n.length ≤ 1000) (hB : Has E w 2) (hN : Has E w 5) (hF : Has E w 8) (hO : Has E w 9) :
    Calls Tryz.prog 72 #[v, .string (bs n), .string (bs d)] w fun e w' => ∃ r, e = .returned (.tuple #[r, .nilIface]) ∧ w'.ownsRow w.heap.size 130 2 r (fputL l n d).length (fcells (fputL l n d)) ∧ Below w.heap.size w w' := by
  have h0 := (flFault_wf _).2 hok
  have h1 : d.length ≤ maxLen := by unfold maxLen; omega
  have h2 : n.length ≤ maxLen := by unfold maxLen; omega
  cases hg : fgetL l n with
  | none =>
    refine (flput_new E l v n d w hl hf.okx h1 h2 hB hN hF hO hf hg).mono ?_
    rintro e w1 ⟨r, er, rfl, fe, ho, _, b1⟩
    rw [h0] at fe
    rw [fe.zero]
    exact ⟨r, rfl, ho h0, b1⟩
  | some d0 =>
    refine (flput_there E l v n d w hl hf.okx h1 h2 hB hN hF hO hf (by rw [hg]; rfl)).mono ?_
    rintro e w1 ⟨r, er, rfl, fe, ho, _, b1⟩
    rw [h0] at fe
    rw [fe.zero]
    exact ⟨r, rfl, ho h0, b1⟩
section
variable {E : Nat → Addr} {w0 w : World} {xb : Nat} {A : XA} {x : XS}
set_option maxRecDepth 100000 in
set_option maxHeartbeats 12800000 in
theorem xput2_any (n d : List UInt8) (h : XAt w0 w xb A x) (htt : FWF x.tt) (hok : FWF (fputL x.room n d)) (hd : d.length ≤ 4000) (hn : n.length ≤ 1000) (h2 : Has E w0 2) (h5 : Has E w0 5) (h8 : Has E w0 8) (h9 : Has E w0 9) :
    Calls Tryz.prog 258 #[.pointer (some ⟨xb, 0, none⟩), .string (bs n), .string (bs d)] w fun e w' => ∃ r, e = .returned (.tuple #[r, .nilIface]) ∧ w'.ownsRow w.heap.size 130 2 r (fputL x.room n d).length (fcells (fputL x.room n d)) ∧ Below w.heap.size w w' := by
  have HS := Lib.hid (fun (c : Nat) (w' : World) (b : Below w.heap.size w w') (hh : Has E w0 c) => hh.below (below_trans' h.rest.bel b))
  have PT := Lib.hid (fun (l : List PF) (v : Value) (w' : World) (b : Below w.heap.size w w') (hl : SliceIs w' v 2 (fcells l)) (hf : FWF l) (hok : FWF (fputL l n d)) => flput_well E l v n d w' hl hf hok hd hn (HS.out 2 w' b h2) (HS.out 5 w' b h5) (HS.out 8 w' b h8) (HS.out 9 w' b h9))
  have c1 := h.cells.cs.2.1
  have hlx := lt_of_block h.cells
  have HX := Lib.hid h
  have hfew := htt.few
  obtain ⟨va, vc, hv⟩ := owns_slice h.rest.tt
  have HO := Lib.hid h.rest.tt
  rw [hv] at HO c1
  have B0 := Lib.hid (wb_alloc w (.cells #[.pointer (some ⟨xb, 0, none⟩)] 192))
  clear h2 h5 h8 h9 HS
  by_cases h20 : 20 ≤ x.tt.length
  · have hroom : x.room = x.tt.filter fun f => x.ln.any fun y => y.n == f.n := by unfold XS.room; rw [if_pos h20]
    rw [hroom] at hok ⊢
    have h20I : decide ((20 : Int) ≤ x.tt.length) = true := by simp; omega
    have CL := Lib.hid (flclone_any x.tt (.slice va x.tt.length vc) (w.alloc (.cells #[.pointer (some ⟨xb, 0, none⟩)] 192)) (SliceIs.ownedK (owns_below HO.out B0.out)) (by omega))
    have hpc : (w.alloc (.cells #[.pointer (some ⟨xb, 0, none⟩)] 192)).cell? ⟨w.heap.size, 0, none⟩ = some (.pointer (some ⟨xb, 0, none⟩)) := by simp
    have HPC := Lib.hid hpc
    have HOK := Lib.hid hok
    have HTT := Lib.hid (htt.filter fun f => x.ln.any fun y => y.n == f.n)
    have HRM := Lib.hid hroom
    have hsz : w.heap.size < (w.alloc (.cells #[.pointer (some ⟨xb, 0, none⟩)] 192)).heap.size := by simp
    clear h htt hok hpc hd hn hroom HO
    go_enter Tryz.func258, Tryz.ntmps258
    go_wp2_with fail
    generalize (w.alloc (.cells #[.pointer (some ⟨xb, 0, none⟩)] 192)) = w1 at *
    refine CL.out.mono ?_
    rintro e w2 ⟨r2, rfl, o2, b2⟩
    have B2 := Lib.hid (below_trans' B0.out b2)
    have hpw : w2.cell? ⟨w.heap.size, 0, none⟩ = some (.pointer (some ⟨xb, 0, none⟩)) := (b2.cell hsz).trans HPC.out
    have X2 := Lib.hid (HX.out.below B2.out)
    have DL := delFile_any fn0 fn1 (fun _ => ⟨rfl, rfl⟩) (fun f : PF => !(x.ln.any fun y => y.n == f.n)) 268 #[.pointer (some ⟨w.heap.size, 0, none⟩)] enterPut21 w1.heap.size r2 x.tt w2 o2 (fun W f _ hc => by
      have hx : ∀ b, b < w1.heap.size → ¬ RowOf r2 b := fun b hb e => by have := own_base o2 e; omega
      have hpx := World.block_lt_of_cell? w2 _ hpw
      have k1 : W.cell? ⟨w.heap.size, 0, none⟩ = some (.pointer (some ⟨xb, 0, none⟩)) := by
        have := hc.block w.heap.size hpx (hx _ hsz)
        simpa [World.cell?, this] using hpw
      have k2 := hc.block xb (lt_of_block X2.out.cells) (hx _ (by omega))
      have k3 : W.cell? ⟨xb, 12, none⟩ = some A.vl := by
        have := X2.out.cells.cs.2.2.2.2.2.2.2.2.2.2.2.2.1
        simpa [World.cell?, k2] using this
      exact put21_any f w.heap.size xb A.vl x.ln W k1 k3 (SliceIs.ownedK (own_other X2.out.rest.ln hc (fun z hz => hx z (by have := (HX.out.rest.ln.lt z hz).2; omega)))))
    have DL := Lib.hid DL
    have O2 := Lib.hid o2
    obtain ⟨ua, uc, rfl⟩ := owns_slice o2
    clear o2 b2 CL hpw
    go_wp2_with fail
    refine DL.out.mono ?_
    rintro e w3 ⟨r3, rfl, o3, _, c3⟩
    have e3 : (x.tt.filter fun f => !!(x.ln.any fun y => y.n == f.n)) = x.tt.filter fun f => x.ln.any fun y => y.n == f.n := by simp
    rw [e3] at o3
    have B3 := Lib.hid (c3.below B2.out (fun z hz => by have := own_base O2.out hz; omega))
    have P3 := Lib.hid (PT.out _ r3 w3 B3.out (SliceIs.ownedK o3) HTT.out HOK.out)
    obtain ⟨ta, tc, rfl⟩ := owns_slice o3
    clear o3 c3 DL O2 X2 PT e3
    go_wp2_with fail
    refine P3.out.mono ?_
    rintro e w4 ⟨r4, rfl, o4, b4⟩
    have O4 := Lib.hid (owns_mono' o4 B3.out.size)
    have B4 := Lib.hid (below_trans' B3.out b4)
    obtain ⟨sa, sc, rfl⟩ := owns_slice o4
    clear o4 b4 P3
    go_wp2_with fail
    go_ret2
    exact ⟨_, rfl, O4.out, B4.out⟩
  · have hroom : x.room = x.tt := by unfold XS.room; rw [if_neg h20]
    rw [hroom] at hok ⊢
    have h20I : decide ((20 : Int) ≤ x.tt.length) = false := by simp; omega
    have P1 := Lib.hid (PT.out x.tt (.slice va x.tt.length vc) _ B0.out (SliceIs.ownedK (owns_below HO.out B0.out)) htt hok)
    clear h htt hok hd hn hroom HO PT HX
    go_enter Tryz.func258, Tryz.ntmps258
    go_wp2_with fail
    refine P1.out.mono ?_
    rintro e w4 ⟨r4, rfl, o4, b4⟩
    have O4 := Lib.hid (owns_mono' o4 B0.out.size)
    have B4 := Lib.hid (below_trans' B0.out b4)
    obtain ⟨sa, sc, rfl⟩ := owns_slice o4
    clear o4 b4 P1
    go_wp2_with fail
    go_ret2
    exact ⟨_, rfl, O4.out, B4.out⟩
end
end Go.Proofs.YtppkeophochgiaaGreatDoor
/- Contract of a transfer: given: a file's delta comes to the destination. -/
namespace Go.Proofs.YtppkeophochgiaaGreatDoor
open Go.RowKit
set_option linter.unusedVariables false
theorem below_grownG {w w1 w2 : World} {b : Nat} (h : Below w.heap.size w w1) (g : w1.grownBy w2 (some b)) (hb : w.heap.size ≤ b) : Below w.heap.size w w2 :=
  (Chg.of_grown g).below h (fun z hz => by subst hz; exact hb)
section
variable {E : Nat → Addr} {w0 w : World} {xb : Nat} {A : XA} {x : XS}
theorem turned_chg {w w' : World} {b : Nat} (h : w.mapTurned w' b) : Chg w w' (fun x => x = b) := Chg.of_grown h.grown
/-- a name is kept among those that want all -/
theorem XAt.addFu (h : XAt w0 w xb A x) {w' : World} {n : List UInt8} (hm : FMapIs w' A.ub (x.fu.length + 1) (n :: x.fu)) (ht : w.mapTurned w' A.ub) : XAt w0 w' xb A { x with fu := n :: x.fu } := by
  have hc := turned_chg ht
  obtain ⟨es, c, hmm⟩ := h.fu.isMap
  have hr := h.rest.mapAt hc hmm h.ne h.lu
  exact ⟨(hc.block xb (lt_of_block h.cells) (fun e => cells_map h.cells hmm e)).trans h.cells, ⟨hr.fr, hr.tt, hr.nt, hr.ln, hr.gt, hr.lm, hr.bel⟩, (hc.block A.fb h.fl.lt (fun e => cells_map h.fl hmm e)).trans h.fl, hm, h.ne, h.lx, h.lf, h.lu⟩
theorem XS.gave_bad {n : List UInt8} {ops : List POp} {y : PL} (h : (whC (x.old n) (sizeN (x.old n).length) ops y.N y.S).1 ≠ 0) : x.gave n ops y = { x with fu := n :: x.fu } := by unfold XS.gave; rw [if_pos h]
theorem XS.gave_put {n : List UInt8} {ops : List POp} {y : PL} (h : (whC (x.old n) (sizeN (x.old n).length) ops y.N y.S).1 = 0) (h2 : (putF x.room n (whL (x.old n) (sizeN (x.old n).length) ops y.N y.S)).1 = 0) : x.gave n ops y = { x with tt := fputL x.room n (whL (x.old n) (sizeN (x.old n).length) ops y.N y.S) } := by
  unfold XS.gave; rw [if_neg (by simp [h]), if_pos h2]
set_option maxRecDepth 100000 in
set_option maxHeartbeats 12800000 in
theorem xgiven_any (d n t l1 l2 : List UInt8) (c1 c2 : Nat) (ops : List POp) (k : Nat) (hk : k < x.ln.length) (h : XAt w0 w xb A x) (hfu : x.fu.length ≤ 1000000) (hix : ixI 0 (fun y : PL => y.n == n) x.ln = k)
    (hd : d.length ≤ 1000000) (hl1 : l1.length ≤ 1000000) (ht : t.length ≤ 1000000) (e1 : rtT d 0 = n) (e2 : rtR d 0 = l1) (e3 : rtC d 0 = c1) (e4 : rtT l1 c1 = t) (e5 : rtR l1 c1 = l2) (e6 : rtC l1 c1 = c2) (e7 : rEnd l2 c2 = 0)
    (ho : readO t = (ops, 0)) (hnl : n.length ≤ 1000) (hold : (x.old n).length ≤ 4000) (htt : FWF x.tt) (hln : x.ln.length ≤ 1000000)
    (hput : (whC (x.old n) (sizeN (x.old n).length) ops (x.ln[k]'hk).N (x.ln[k]'hk).S).1 = 0 → FWF (fputL x.room n (whL (x.old n) (sizeN (x.old n).length) ops (x.ln[k]'hk).N (x.ln[k]'hk).S)) ∧ (putF x.room n (whL (x.old n) (sizeN (x.old n).length) ops (x.ln[k]'hk).N (x.ln[k]'hk).S)).1 = 0 ∧ (whL (x.old n) (sizeN (x.old n).length) ops (x.ln[k]'hk).N (x.ln[k]'hk).S).length ≤ 4000)
    (h1 : Has E w0 1) (h2 : Has E w0 2) (h3 : Has E w0 3) (h4 : Has E w0 4) (h5 : Has E w0 5) (h6 : Has E w0 6) (h8 : Has E w0 8) (h9 : Has E w0 9) (h10 : Has E w0 10) :
    Calls Tryz.prog 230 #[.pointer (some ⟨xb, 0, none⟩), .string (bs d)] w fun e w' => e = .returned (.tuple #[]) ∧ ∃ A', XAt w0 w' xb A' (x.gave n ops (x.ln[k]'hk)) := by
  have HX := Lib.hid h
  have HS := Lib.hid (fun (c : Nat) (w' : World) (b : Below w.heap.size w w') (hh : Has E w0 c) => hh.below (below_trans' h.rest.bel b))
  have H1 := Lib.hid (fun w' b => HS.out 1 w' b h1)
  have H2 := Lib.hid (fun w' b => HS.out 2 w' b h2)
  have H3 := Lib.hid (fun w' b => HS.out 3 w' b h3)
  have H4 := Lib.hid (fun w' b => HS.out 4 w' b h4)
  have H6 := Lib.hid (fun w' b => HS.out 6 w' b h6)
  have H8 := Lib.hid (fun w' b => HS.out 8 w' b h8)
  have H10 := Lib.hid (fun w' b => HS.out 10 w' b h10)
  obtain ⟨o, hoe⟩ : ∃ o, x.old n = o := ⟨_, rfl⟩
  obtain ⟨z, hz⟩ : ∃ z, sizeN (o.length : Int) = z := ⟨_, rfl⟩
  have hold2 : x.old n = if x.fu.contains n then [] else (fgetL x.tt n).getD [] := rfl
  rw [hoe] at hold hold2 hput
  rw [hz] at hput
  have GT := Lib.hid (fun (w' : World) (b : Below w.heap.size w w') => flget_any x.tt A.vt n w' ((SliceIs.ownedK h.rest.tt).below b))
  have LK := Lib.hid (fun (w' : World) (b : Below w.heap.size w w') => (h.below b).fu.look (k := n) (by unfold maxLen; omega))
  have CS := Lib.hid (fun (w' : World) (b : Below w.heap.size w w') => (h.below b).cells.cs)
  have SZ := Lib.hid (fun w' => size_any (o.length : Int) w')
  rw [hz] at SZ
  have GB := Lib.hid (fun h => XS.gave_bad (x := x) (n := n) (ops := ops) (y := x.ln[k]'hk) h)
  have GP := Lib.hid (fun h h' => XS.gave_put (x := x) (n := n) (ops := ops) (y := x.ln[k]'hk) h h')
  rw [hoe, hz] at GB GP
  obtain ⟨g, cap, hlv, hc1, hc2⟩ := own_is h.rest.ln (by omega)
  have HO := h.rest.ln
  rw [hlv] at HO
  obtain ⟨k0, k1, k2⟩ := lcells_get x.ln k hk
  have hlen3 := lcells_len x.ln
  have d0 := HO.cellAt (k * 3) (by omega)
  have d1 := HO.cellAt (k * 3 + 1) (by omega)
  have d2 := HO.cellAt (k * 3 + 2) (by omega)
  rw [k0] at d0
  rw [k1] at d1
  rw [k2] at d2
  have HLN := Lib.hid (fun (w' : World) (b : Below w.heap.size w w') => (SliceIs.ownedK HO).below b)
  have y1 : (0 : Int) ≤ k := by omega
  have y2 : (k : Int).toNat = k := by omega
  have y3 : (k : Int) < x.ln.length := by omega
  obtain ⟨y, hy⟩ : ∃ y, x.ln[k]'hk = y := ⟨_, rfl⟩
  rw [hy] at d0 d1 d2 GB GP hput ⊢
  have DC := Lib.hid (fun (w' : World) (b : Below w.heap.size w w') => (⟨(b.cell (World.block_lt_of_cell? w _ d1)).trans d1, (b.cell (World.block_lt_of_cell? w _ d2)).trans d2⟩ : w'.cell? ⟨g, k * 3 + 1, none⟩ = some (.int .i64 y.N) ∧ w'.cell? ⟨g, k * 3 + 2, none⟩ = some (.int .u32 y.S)))
  have CL := Lib.hid (fun (w' : World) (b : Below w.heap.size w w') => (h.below b).cells.cs.2.2.2.2.2.2.2.2.2.2.2.2.1)
  rw [hlv] at CL
  have PT := Lib.hid (fun (w' : World) (v : List UInt8) (b : Below w.heap.size w w') (hok : FWF (fputL x.room n v)) (hv : v.length ≤ 4000) => xput2_any (E := E) n v (h.below b) htt hok hv hnl h2 h5 h8 h9)
  have ST := Lib.hid (fun (w' : World) (b : Below w.heap.size w w') => (h.below b).fu.store (k := n) (by unfold maxLen; omega) (by unfold maxLen; omega))
  have hoz : (bs o).size = o.length := bs_size o
  have hob : x.fu.contains n = true ∧ bs o = ⟨#[]⟩ ∨ x.fu.contains n = false ∧ bs o = bs ((fgetL x.tt n).getD []) := by
    cases hc : x.fu.contains n with
    | true => rw [hc, if_pos rfl] at hold2; exact .inl ⟨rfl, by rw [hold2, bs_nil]⟩
    | false => rw [hc, if_neg (by simp)] at hold2; exact .inr ⟨rfl, by rw [hold2]⟩
  have WH := Lib.hid (fun (w' : World) (b : Below w.heap.size w w') (s0 : Option Addr) (n0 c0 : Nat) (hl : SliceIs w' (.slice s0 n0 c0) 4 (ocells ops)) => whole_any E o z s0 n0 c0 ops y.N y.S w' hl (H2.out w' b) (H3.out w' b) (H4.out w' b) (H6.out w' b) (H8.out w' b) (H10.out w' b))
  have HPUT := Lib.hid hput
  have B0 := Lib.hid (wb_alloc w (.cells #[.string (bs d), .nilIface] 304))
  have RA : RAt E (w.alloc (.cells #[.string (bs d), .nilIface] 304)) w.heap.size d 0 := by
    have := heap_alloc_new w (.cells #[.string (bs d), .nilIface] 304)
    unfold RAt
    rw [ev_zero]
    exact this
  have X1 := Lib.hid (rtext_any E w.heap.size d 0 (w.alloc (.cells #[.string (bs d), .nilIface] 304)) (by omega) RA (H1.out _ B0.out) (H2.out _ B0.out))
  rw [e1, e2, e3] at X1
  have FL := Lib.hid hix
  clear h h1 h2 h3 h4 h5 h6 h8 h9 h10 HS htt hput hoe hz hold2 hlv HO k0 k1 k2 hlen3 d0 d1 d2 hy RA e1 e2 e3 hix
  go_enter Tryz.func230, Tryz.ntmps230
  go_wp2_with fail
  generalize w.alloc (.cells #[.string (bs d), .nilIface] 304) = wa at *
  refine X1.out.mono ?_
  rintro e w1 ⟨rfl, R1, g1⟩
  have b1 := below_grownG B0.out g1 (Nat.le_refl _)
  have X2 := Lib.hid (rtext_any E w.heap.size l1 c1 w1 (by omega) R1 (H1.out _ b1) (H2.out _ b1))
  rw [e4, e5, e6] at X2
  have B1 := Lib.hid b1
  clear R1 g1 b1 X1 B0
  go_wp2_with fail
  refine X2.out.mono ?_
  rintro e w2 ⟨rfl, R2, g2⟩
  have b2 := below_grownG B1.out g2 (Nat.le_refl _)
  have B2 := Lib.hid b2
  have R2 := Lib.hid R2
  clear g2 b2 X2 B1
  go_wp2_with fail
  have B3 := Lib.hid (B2.out.alloc B2.out.size (.cells #[.string (bs n)] 9))
  have R3 := Lib.hid (R2.out.below (wb_alloc w2 (.cells #[.string (bs n)] 9)))
  have N3 := Lib.hid (heap_alloc_new w2 (.cells #[.string (bs n)] 9))
  have HNB := Lib.hid (show w.heap.size < w2.heap.size from lt_of_block R2.out)
  have HNB2 := Lib.hid B2.out.size
  generalize w2.alloc (.cells #[.string (bs n)] 9) = w3 at *
  generalize w2.heap.size = nb at *
  have DR := dread_any E (bs t) w3 (by rw [bs_size]; omega) (H1.out _ B3.out) (H2.out _ B3.out) (H3.out _ B3.out) (H4.out _ B3.out)
  rw [bs_list, ho] at DR
  simp only [ev_zero] at DR
  have DR := Lib.hid DR
  clear B2 R2
  refine DR.out.mono ?_
  rintro e w4 ⟨v4, rfl, o4, b4⟩
  have B4 := Lib.hid (below_trans' B3.out b4)
  have R4 := Lib.hid (R3.out.below b4)
  have N4 := Lib.hid ((b4.block nb (lt_of_block N3.out)).trans N3.out)
  have O4 := Lib.hid o4
  obtain ⟨oa, oc, rfl⟩ := owns_slice o4
  have c12 := CL.out _ B4.out
  have IX := ixLine_any (fun y => y.n == n) 256 #[.pointer (some ⟨nb, 0, none⟩)] enterGiv (some ⟨g, 0, none⟩) x.ln.length cap x.ln w4 (HLN.out _ B4.out) (fun W y _ hb => given1_any y n nb W (by
    have h1 := (hb.block nb (lt_of_block N4.out)).trans N4.out
    simp [World.cell?, h1]))
  rw [FL.out] at IX
  have IX := Lib.hid IX
  clear DR o4 b4 R3 N3 B3
  go_wp2_with fail
  refine IX.out.mono ?_
  rintro e w5 ⟨rfl, b5⟩
  have B5 := Lib.hid (below_trans' B4.out b5)
  have R5 := R4.out.below b5
  have R5b := Lib.hid (show w5.heap[w.heap.size]? = some (.cells #[.string (bs l2), ev E c2] 304 (0, 0)) from R5)
  have N5 := Lib.hid ((b5.block nb (lt_of_block N4.out)).trans N4.out)
  have O5 := Lib.hid (owns_below O4.out b5)
  have EN := rend_any E w.heap.size l2 c2 w5 R5 (H1.out _ B5.out)
  rw [e7, ev_zero] at EN
  have EN := Lib.hid EN
  clear b5 R4 R5 N4 O4 B4 IX c12
  go_wp2_with fail
  refine EN.out.mono ?_
  rintro e w6 ⟨rfl, R6, g6⟩
  have B6 := Lib.hid (below_grownG B5.out g6 (Nat.le_refl _))
  have N6 := Lib.hid ((g6.block nb (lt_of_block N5.out) (fun e => by have := HNB.out; have := Option.some.inj e; omega)).trans N5.out)
  have O6 := Lib.hid (own_other O5.out (Chg.of_grown g6) (fun y hy e => own_ne O5.out R5b.out (by decide) (by rw [hy, e])))
  clear R6 g6 R5b N5 O5 B5 EN
  go_wp2_with fail
  have c1 := (CS.out _ B6.out).2.1
  have n0 : w6.cell? ⟨nb, 0, none⟩ = some (.string (bs n)) := by have := N6.out; simp [World.cell?, this]
  have S0 := And.intro c1 n0
  have S1 : w6.drew.cell? ⟨xb, 1, none⟩ = some A.vt ∧ w6.drew.cell? ⟨nb, 0, none⟩ = some (.string (bs n)) := S0
  have GT6 := Lib.hid (GT.out _ (Below.drew B6.out))
  have hxb6 := lt_of_block (HX.out.below B6.out).cells
  have KS := Lib.hid (fun (W : World) (b : Below w6.drew.heap.size w6.drew W) => (⟨(b.cell hxb6).trans S1.1, (b.cell (lt_of_block N6.out)).trans S1.2⟩ : W.cell? ⟨xb, 1, none⟩ = some A.vt ∧ W.cell? ⟨nb, 0, none⟩ = some (.string (bs n))))
  clear GT
  go_region_held3 (fun X => X.cell? ⟨xb, 1, none⟩ = some A.vt ∧ X.cell? ⟨nb, 0, none⟩ = some (.string (bs n))) (first | exact S1 | exact S0 | exact KS.out _ (by assumption)) ((go_at_call 103; refine GT6.out.mono ?_; rintro e w7 ⟨rfl, b7⟩))
  have B7 := Lib.hid (below_trans' (Below.drew B6.out) b7)
  have N7 := Lib.hid ((b7.block nb (lt_of_block N6.out)).trans N6.out)
  have O7 := Lib.hid (owns_below O6.out ((Below.drew (Below.refl _ w6)).trans b7))
  have lkN := fun m => LK.out _ (below_drewN B7.out m)
  have c14 := (CS.out _ B7.out).2.2.2.2.2.2.2.2.2.2.2.2.2.2.1
  have n0 : w7.cell? ⟨nb, 0, none⟩ = some (.string (bs n)) := by have := N7.out; simp [World.cell?, this]
  clear b7 KS S0 S1 GT6 B6 N6 O6 c1 LK
  generalize bs o = ob at *
  generalize bs ((fgetL x.tt n).getD []) = gb at *
  generalize (fgetL x.tt n).isSome = gi at *
  generalize x.fu.contains n = fc at *
  rcases hob with ⟨rfl, rfl⟩ | ⟨rfl, rfl⟩
  all_goals
    go_wp2_with fail
    go_quiet (fail)
    go_wp2_with fail
    have B8 := Lib.hid (below_drewN B7.out nq)
    have N8 := Lib.hid (show (w7.drewN nq).heap[nb]? = some (.cells #[.string (bs n)] 9 (0, 0)) from N7.out)
    have O8 := Lib.hid (owns_below O7.out (below_drewN (Below.refl _ w7) nq))
    clear B7 N7 O7 lkN c14 n0
    generalize w7.drewN nq = w8 at *
    have c12 := CL.out _ B8.out
    have DC8 := DC.out _ B8.out
    have S0 := And.intro c12 DC8
    have S1 : w8.drew.cell? ⟨xb, 12, none⟩ = some (.slice (some ⟨g, 0, none⟩) x.ln.length cap) ∧ w8.drew.cell? ⟨g, k * 3 + 1, none⟩ = some (.int .i64 y.N) ∧ w8.drew.cell? ⟨g, k * 3 + 2, none⟩ = some (.int .u32 y.S) := S0
    have KS := Lib.hid (fun (W : World) (b : Below w8.drew.heap.size w8.drew W) => (⟨(b.cell (World.block_lt_of_cell? w8 _ S0.1)).trans S1.1, (b.cell (World.block_lt_of_cell? w8 _ S0.2.1)).trans S1.2.1, (b.cell (World.block_lt_of_cell? w8 _ S0.2.2)).trans S1.2.2⟩ : W.cell? ⟨xb, 12, none⟩ = some (.slice (some ⟨g, 0, none⟩) x.ln.length cap) ∧ W.cell? ⟨g, k * 3 + 1, none⟩ = some (.int .i64 y.N) ∧ W.cell? ⟨g, k * 3 + 2, none⟩ = some (.int .u32 y.S)))
    have WH8 := Lib.hid (WH.out _ (Below.drew B8.out) oa ops.length oc ((SliceIs.ownedK O8.out).below (Below.drew (Below.refl _ w8))))
    clear WH CL DC DC8 c12
    go_region_held3 (fun X => X.cell? ⟨xb, 12, none⟩ = some (.slice (some ⟨g, 0, none⟩) x.ln.length cap) ∧ X.cell? ⟨g, k * 3 + 1, none⟩ = some (.int .i64 y.N) ∧ X.cell? ⟨g, k * 3 + 2, none⟩ = some (.int .u32 y.S)) (first | exact S1 | exact S0 | exact KS.out _ (by assumption) | assumption) ((first | (go_at_call 245; refine (SZ.out _).mono ?_; rintro e w7 ⟨rfl, rfl⟩) | (go_at_call 257; refine WH8.out.mono ?_; rintro e w9 ⟨v9, rfl, fe9, b9⟩)))
    have B9 := Lib.hid (below_trans' (Below.drew B8.out) b9)
    have N9 := Lib.hid ((b9.block nb (lt_of_block N8.out)).trans N8.out)
    have n0 : w9.cell? ⟨nb, 0, none⟩ = some (.string (bs n)) := by have := N9.out; simp [World.cell?, this]
    clear b9 KS S0 S1 WH8 B8 N8 O8
    by_cases hw : (whC o z ops y.N y.S).1 = 0
    · rw [hw] at fe9
      obtain rfl := fe9.zero
      obtain ⟨hp1, hp2, hp3⟩ := HPUT.out hw
      have GV := Lib.hid (GP.out hw hp2)
      have P9 := Lib.hid (PT.out w9 _ B9.out hp1 hp3)
      generalize whL o z ops y.N y.S = v at *
      clear fe9 hw hp1 hp2 hp3 HPUT GP GB PT ST
      go_wp2_with fail
      refine P9.out.mono ?_
      rintro e w10 ⟨r10, rfl, o10, b10⟩
      have X10 := HX.out.below (below_trans' B9.out b10)
      have X11 := Lib.hid (X10.setTo o10 (Nat.le_trans HX.out.rest.bel.size B9.out.size))
      have f1 := X10.cells.fz 1
      have c1 := X10.cells.cs.2.1
      obtain ⟨va, vc, rfl⟩ := owns_slice o10
      clear o10 b10 P9 X10 n0
      go_wp2_with fail
      go_returns
      exact ⟨rfl, _, by rw [GV.out]; exact X11.out⟩
    · have GV := Lib.hid (GB.out hw)
      obtain ⟨vt, vp, rfl⟩ := fe9.some hw
      obtain ⟨w10, st, hm10, ht10⟩ := ST.out _ (Below.drew B9.out)
      have X10 := Lib.hid ((HX.out.below (Below.drew B9.out)).addFu hm10 ht10)
      have c14 := (CS.out _ B9.out).2.2.2.2.2.2.2.2.2.2.2.2.2.2.1
      clear fe9 hw HPUT GP GB PT ST hm10 ht10
      go_wp2_with fail
      go_region_law (fail)
      all_goals
        go_wp2_with fail
        go_returns
        exact ⟨rfl, _, by rw [GV.out]; exact X10.out⟩
end
end Go.Proofs.YtppkeophochgiaaGreatDoor
