/- Texts of one proof, one behind the other: ScrAt, XferBegin, XferNew, XferDel. -/
import Derived.Test.YtppkeophochgiaaGreatDoorB34
import Derived.Test.YtppkeophochgiaaGreatDoorB26
import Derived.Test.YtppkeophochgiaaGreatDoorB36
import Derived.Test.YtppkeophochgiaaGreatDoorB31
import Derived.Deep.RegionLaw
/- A player of scripts in memory: its cells, and what they lead to. -/
namespace Go.Proofs.YtppkeophochgiaaGreatDoor
open Go.RowKit
set_option linter.unusedVariables false
/-- the addresses of a player's parts; F: what its disk may write -/
structure PlA where
  vf : Value
  vt : Value
  gb : Nat
  mb : Nat
  db : Nat
  F : Nat → Prop
/-- what others hold meanwhile: blocks with what lies there, and how far the heap reaches at least -/
structure Guest where
  q : Nat → Obj → Prop
  n : Nat
/-- a row is none of the disk's, and no guest's -/
def Apt (Q : Guest) (A : PlA) (r : Value) : Prop := (∀ x, A.F x → r.ownBlock ≠ some x) ∧ ∀ x o, Q.q x o → r.ownBlock ≠ some x
structure PlAt (Q : Guest) (w0 w : World) (pb : Nat) (A : PlA) (s : SP) (n : Nat) : Prop where
  cells : w.heap[pb]? = some (.cells #[A.vf, A.vt, .pointer (some ⟨A.gb, 0, none⟩), .pointer (some ⟨A.db, 0, none⟩)] 57 (0, 0))
  fr : w.ownsRow w0.heap.size 130 2 A.vf s.fr.length (fcells s.fr)
  tt : w.ownsRow w0.heap.size 130 2 A.vt s.tt.length (fcells s.tt)
  gt : GtAt w A.gb A.mb n s.gm
  tp : TpS w0 w A.F A.db s.tp
  nf : ∀ x, A.F x → x ≠ pb ∧ x ≠ A.gb ∧ x ≠ A.mb ∧ A.vf.ownBlock ≠ some x ∧ A.vt.ownBlock ≠ some x
  lp : w0.heap.size ≤ pb
  lg : w0.heap.size ≤ A.gb
  lm : w0.heap.size ≤ A.mb
  bel : Below w0.heap.size w0 w
  gs : ∀ x o, Q.q x o → w.heap[x]? = some o
  gn : ∀ x o, Q.q x o → x ≠ pb ∧ x ≠ A.gb ∧ x ≠ A.mb ∧ ¬ A.F x ∧ A.vf.ownBlock ≠ some x ∧ A.vt.ownBlock ≠ some x
  gz : Q.n ≤ w.heap.size
section
variable {Q : Guest} {w0 w w' : World} {pb n : Nat} {A : PlA} {s : SP}
theorem PlAt.cs (h : PlAt Q w0 w pb A s n) : (w.cell? ⟨pb, 0, none⟩ = some A.vf ∧ w.cell? ⟨pb, 1, none⟩ = some A.vt ∧ w.cell? ⟨pb, 2, none⟩ = some (.pointer (some ⟨A.gb, 0, none⟩)) ∧ w.cell? ⟨pb, 3, none⟩ = some (.pointer (some ⟨A.db, 0, none⟩))) ∧ ∀ k, w.frozen? ⟨pb, k, none⟩ = false := by
  refine ⟨⟨?_, ?_, ?_, ?_⟩, fun k => ?_⟩ <;> simp [World.cell?, World.frozen?, h.cells]
theorem PlAt.lt (h : PlAt Q w0 w pb A s n) : pb < w.heap.size := lt_of_block h.cells
theorem PlAt.mapObj (h : PlAt Q w0 w pb A s n) : ∃ es c, w.heap[A.mb]? = some (.map es c) := h.gt.mapObj
theorem PlAt.below (h : PlAt Q w0 w pb A s n) (b : Below w.heap.size w w') : PlAt Q w0 w' pb A s n :=
  ⟨(b.block _ h.lt).trans h.cells, owns_below h.fr b, owns_below h.tt b, h.gt.below b, h.tp.below b, h.nf, h.lp, h.lg, h.lm, below_trans' h.bel b, fun x o hq => (b.block _ (lt_of_block (h.gs x o hq))).trans (h.gs x o hq), h.gn, Nat.le_trans h.gz b.size⟩
theorem PlAt.mono (h : PlAt Q w0 w pb A s n) {m : Nat} (hm : n ≤ m) : PlAt Q w0 w pb A s m := ⟨h.cells, h.fr, h.tt, h.gt.mono hm, h.tp, h.nf, h.lp, h.lg, h.lm, h.bel, h.gs, h.gn, h.gz⟩
/-- the gate turns -/
theorem PlAt.gate (h : PlAt Q w0 w pb A s n) {m : Nat} {g : GM} (hc : Chg w w' (fun x => x = A.mb)) (hg : GtAt w' A.gb A.mb m g) : PlAt Q w0 w' pb A { s with gm := g } m := by
  obtain ⟨es, c, hm⟩ := h.mapObj
  have hb := hc.below h.bel (fun z hz => by subst hz; exact h.lm)
  exact ⟨(hc.block pb h.lt (fun e => cells_map h.cells hm e)).trans h.cells, own_other h.fr hc (fun z hz e => own_ne_map h.fr hm (by rw [hz, e])), own_other h.tt hc (fun z hz e => own_ne_map h.tt hm (by rw [hz, e])), hg,
    h.tp.kept hc (fun x hx e => (h.nf x hx).2.2.1 e) hb, h.nf, h.lp, h.lg, h.lm, hb, fun x o hq => (hc.block x (lt_of_block (h.gs x o hq)) (h.gn x o hq).2.2.1).trans (h.gs x o hq), h.gn, Nat.le_trans h.gz hc.size⟩
/-- the disk turns -/
theorem PlAt.tape (h : PlAt Q w0 w pb A s n) {F' : Nat → Prop} {d : TP} (hl : LaterT w w' A.F F') (ht : TpS w0 w' F' A.db d) : PlAt Q w0 w' pb { A with F := F' } { s with tp := d } n := by
  obtain ⟨es, c, hm⟩ := h.mapObj
  have hc := hl.1
  refine ⟨(hc.block pb h.lt (fun e => (h.nf pb e).1 rfl)).trans h.cells, own_other h.fr hc (fun z hz e => (h.nf z e).2.2.2.1 hz), own_other h.tt hc (fun z hz e => (h.nf z e).2.2.2.2 hz), h.gt.kept hc (fun e => (h.nf A.gb e).2.1 rfl) (fun e => (h.nf A.mb e).2.2.1 rfl), ht, fun x hx => ?_, h.lp, h.lg, h.lm, ht.bel, fun x o hq => (hc.block x (lt_of_block (h.gs x o hq)) (h.gn x o hq).2.2.2.1).trans (h.gs x o hq), fun x o hq => ⟨(h.gn x o hq).1, (h.gn x o hq).2.1, (h.gn x o hq).2.2.1, fun hx => ?_, (h.gn x o hq).2.2.2.2⟩, Nat.le_trans h.gz hc.size⟩
  rotate_left
  · rcases hl.2 x hx with h1 | h1
    · exact (h.gn x o hq).2.2.2.1 h1
    · have := lt_of_block (h.gs x o hq); omega
  rcases hl.2 x hx with h1 | h1
  · exact h.nf x h1
  · have a1 := h.lt
    have a2 := lt_of_block h.gt.cells
    have a3 := lt_of_block hm
    refine ⟨by omega, by show x ≠ A.gb; omega, by show x ≠ A.mb; omega, fun e => ?_, fun e => ?_⟩
    · have := (h.fr.lt x e).2; omega
    · have := (h.tt.lt x e).2; omega
/-- files are put in another one's place -/
theorem PlAt.setFr (h : PlAt Q w0 w pb A s n) {b : Nat} {r : Value} {l : List PF} (hr : w.ownsRow b 130 2 r l.length (fcells l)) (hb : w0.heap.size ≤ b) (hn : Apt Q A r) :
    PlAt Q w0 (w.setCell ⟨pb, 0, none⟩ r) pb { A with vf := r } { s with fr := l } n := by
  obtain ⟨es, c, hm⟩ := h.mapObj
  have hc : Chg w (w.setCell ⟨pb, 0, none⟩ r) (fun x => x = pb) := (Chg.refl w (fun x => x = pb)).set ⟨pb, 0, none⟩ (.inl rfl) r
  have hbel := hc.below h.bel (fun z hz => by subst hz; exact h.lp)
  refine ⟨?_, own_other (owns_mono' hr hb) hc (fun z hz e => own_ne hr h.cells (by decide) (by rw [hz, e])), own_other h.tt hc (fun z hz e => own_ne h.tt h.cells (by decide) (by rw [hz, e])), h.gt.kept hc (fun e => cells_ne h.gt.cells h.cells (by decide) e) (fun e => cells_map h.cells hm e.symm), h.tp.kept hc (fun x hx e => (h.nf x hx).1 e) hbel, fun x hx => ?_, h.lp, h.lg, h.lm, hbel, fun x o hq => (hc.block x (lt_of_block (h.gs x o hq)) (h.gn x o hq).1).trans (h.gs x o hq), fun x o hq => ⟨(h.gn x o hq).1, (h.gn x o hq).2.1, (h.gn x o hq).2.2.1, (h.gn x o hq).2.2.2.1, hn.2 x o hq, (h.gn x o hq).2.2.2.2.2⟩, Nat.le_trans h.gz hc.size⟩
  · have := set_at (k := 0) (u := r) h.cells
    simpa using this
  · have := h.nf x hx
    exact ⟨this.1, this.2.1, this.2.2.1, hn.1 x hx, this.2.2.2.2⟩
theorem PlAt.setTo (h : PlAt Q w0 w pb A s n) {b : Nat} {r : Value} {l : List PF} (hr : w.ownsRow b 130 2 r l.length (fcells l)) (hb : w0.heap.size ≤ b) (hn : Apt Q A r) :
    PlAt Q w0 (w.setCell ⟨pb, 1, none⟩ r) pb { A with vt := r } { s with tt := l } n := by
  obtain ⟨es, c, hm⟩ := h.mapObj
  have hc : Chg w (w.setCell ⟨pb, 1, none⟩ r) (fun x => x = pb) := (Chg.refl w (fun x => x = pb)).set ⟨pb, 1, none⟩ (.inl rfl) r
  have hbel := hc.below h.bel (fun z hz => by subst hz; exact h.lp)
  refine ⟨?_, own_other h.fr hc (fun z hz e => own_ne h.fr h.cells (by decide) (by rw [hz, e])), own_other (owns_mono' hr hb) hc (fun z hz e => own_ne hr h.cells (by decide) (by rw [hz, e])), h.gt.kept hc (fun e => cells_ne h.gt.cells h.cells (by decide) e) (fun e => cells_map h.cells hm e.symm), h.tp.kept hc (fun x hx e => (h.nf x hx).1 e) hbel, fun x hx => ?_, h.lp, h.lg, h.lm, hbel, fun x o hq => (hc.block x (lt_of_block (h.gs x o hq)) (h.gn x o hq).1).trans (h.gs x o hq), fun x o hq => ⟨(h.gn x o hq).1, (h.gn x o hq).2.1, (h.gn x o hq).2.2.1, (h.gn x o hq).2.2.2.1, (h.gn x o hq).2.2.2.2.1, hn.2 x o hq⟩, Nat.le_trans h.gz hc.size⟩
  · have := set_at (k := 1) (u := r) h.cells
    simpa using this
  · have := h.nf x hx
    exact ⟨this.1, this.2.1, this.2.2.1, this.2.2.2.1, hn.1 x hx⟩
/-- what is laid anew is none of the disk's, and no guest's -/
theorem PlAt.fresh (h : PlAt Q w0 w pb A s n) {r : Value} {b : Nat} {e : TypeId} {size m : Nat} {xs : List Value} (hr : w'.ownsRow b e size r m xs) (hb : w.heap.size ≤ b) : Apt Q A r := by
  refine ⟨fun x hx e => ?_, fun x o hq e => ?_⟩
  · have h1 := own_base hr e
    have h2 := (h.tp.lo x hx).2
    omega
  · have h1 := own_base hr e
    have h2 := lt_of_block (h.gs x o hq)
    omega
/-- guests go, others come -/
theorem PlAt.host (h : PlAt Q w0 w pb A s n) {Q' : Guest} (h1 : ∀ x o, Q'.q x o → w.heap[x]? = some o) (h2 : ∀ x o, Q'.q x o → x ≠ pb ∧ x ≠ A.gb ∧ x ≠ A.mb ∧ ¬ A.F x ∧ A.vf.ownBlock ≠ some x ∧ A.vt.ownBlock ≠ some x) (h3 : Q'.n ≤ w.heap.size) : PlAt Q' w0 w pb A s n :=
  ⟨h.cells, h.fr, h.tt, h.gt, h.tp, h.nf, h.lp, h.lg, h.lm, h.bel, h1, h2, h3⟩
/-- others' blocks turn -/
theorem PlAt.other (h : PlAt Q w0 w pb A s n) {S : Nat → Prop} (hc : Chg w w' S) (hS : ∀ x, S x → w0.heap.size ≤ x ∧ x ≠ pb ∧ x ≠ A.gb ∧ x ≠ A.mb ∧ ¬ A.F x ∧ A.vf.ownBlock ≠ some x ∧ A.vt.ownBlock ≠ some x) : PlAt ⟨fun _ _ => False, 0⟩ w0 w' pb A s n := by
  have hb := hc.below h.bel (fun z hz => (hS z hz).1)
  exact ⟨(hc.block pb h.lt (fun e => (hS _ e).2.1 rfl)).trans h.cells, own_other h.fr hc (fun z hz e => (hS z e).2.2.2.2.2.1 hz), own_other h.tt hc (fun z hz e => (hS z e).2.2.2.2.2.2 hz), h.gt.kept hc (fun e => (hS _ e).2.2.1 rfl) (fun e => (hS _ e).2.2.2.1 rfl), h.tp.kept hc (fun x hx e => (hS x e).2.2.2.2.1 hx) hb, h.nf, h.lp, h.lg, h.lm, hb, fun _ _ h => h.elim, fun _ _ h => h.elim, Nat.zero_le _⟩
end
end Go.Proofs.YtppkeophochgiaaGreatDoor
/- Contract of a transfer: begin. -/
namespace Go.Proofs.YtppkeophochgiaaGreatDoor
open Go.RowKit
set_option linter.unusedVariables false
/-- a transfer whose flow and names are not there yet -/
structure XPre (w0 w : World) (xb : Nat) (A : XA) (pf pu : Value) (x : XS) : Prop where
  cells : XCell w xb A pf pu x
  rest : XRest w0 w A x
  lx : w0.heap.size ≤ xb
theorem gopen_x (n : Nat) (h : n < 1000000) : opC' (gmap n) tokX = 0 ∧ opN (gmap n) tokX = n + 1 ∧ opM (gmap n) tokX = gmap (n + 1) := by
  have h1 : mayC (gmap n) tokX = 0 := mayC_ok (by decide) (fun hh => by
    have : (gmap n).length ≤ 1 := by unfold gmap; split <;> simp
    omega)
  have h2 : opC' (gmap n) tokX = 0 := by unfold opC'; rw [if_neg (by simp [h1]), gmap_glk, if_neg (by omega)]
  refine ⟨h2, by unfold opN; rw [if_pos h2, gmap_glk], ?_⟩
  unfold opM
  rw [if_pos h2, gmap_glk]
  unfold gmap
  by_cases h0 : n = 0
  · subst h0; rfl
  · rw [if_neg h0, if_neg (by omega)]
    simp [gput]
section
variable {E : Nat → Addr} {w0 w w' : World} {xb : Nat} {A : XA} {x : XS} {pf pu : Value}
theorem XAt.pre (h : XAt w0 w xb A x) : XPre w0 w xb A (.pointer (some ⟨A.fb, 0, none⟩)) (.map (some A.ub)) x := ⟨h.cells, h.rest, h.lx⟩
theorem XPre.set (h : XPre w0 w xb A pf pu x) (k : Nat) (u : Value) {A' : XA} {pf' pu' : Value} {x' : XS} (e : (xcells A pf pu x).setIfInBounds k u = xcells A' pf' pu' x') (hr : ∀ w2, XRest w0 w2 A x → XRest w0 w2 A' x') : XPre w0 (w.setCell ⟨xb, k, none⟩ u) xb A' pf' pu' x' :=
  ⟨h.cells.set k u e, hr _ (h.rest.xset h.cells h.lx k u), h.lx⟩
theorem XPre.below (h : XPre w0 w xb A pf pu x) (hb : Below w.heap.size w w') : XPre w0 w' xb A pf pu x :=
  ⟨(hb.block xb (lt_of_block h.cells)).trans h.cells, h.rest.below hb, h.lx⟩
theorem XPre.open (h : XPre w0 w xb A pf pu x) {n : Nat} (hc : Chg w w' (fun b => b = A.mb)) (hg : GtAt w' A.gb A.mb n (gmap n)) : XPre w0 w' xb A pf pu { x with ge := n } := by
  obtain ⟨es, c, hm⟩ := h.rest.gt.mapObj
  have r := h.rest
  refine ⟨(hc.block xb (lt_of_block h.cells) (fun e => cells_map h.cells hm e)).trans h.cells, ⟨own_other r.fr hc (fun z hz e => own_ne_map r.fr hm (by rw [hz, e])), own_other r.tt hc (fun z hz e => own_ne_map r.tt hm (by rw [hz, e])), own_other r.nt hc (fun z hz e => own_ne_map r.nt hm (by rw [hz, e])), own_other r.ln hc (fun z hz e => own_ne_map r.ln hm (by rw [hz, e])), hg, r.lm, hc.below r.bel (fun z hz => by subst hz; exact r.lm)⟩, h.lx⟩
set_option maxRecDepth 100000 in
set_option maxHeartbeats 6400000 in
theorem xbegin_any (h : XPre w0 w xb A pf pu x) (hd : x.dn = false) (hg : x.ge < 1000000) (hn : x.net.length ≤ 1000000000) (h2 : Has E w0 2) (h4 : Has E w0 4) (h5 : Has E w0 5) (h8 : Has E w0 8) :
    Calls Tryz.prog 156 #[.pointer (some ⟨xb, 0, none⟩)] w fun e w' => e = .returned (.tuple #[]) ∧ ∃ A', XAt w0 w' xb A' x.begins := by
  have HX := Lib.hid h
  obtain ⟨g1, g2, g3⟩ := gopen_x x.ge hg
  have OP := gopen_any (E := E) tokX h.rest.gt (by decide) (by omega) (h2.below h.rest.bel) (h5.below h.rest.bel) (h8.below h.rest.bel)
  rw [g1, g2, g3, ev_zero] at OP
  rw [show bs tokX = ⟨#[120]⟩ from by unfold bs tokX; rfl] at OP
  have OP := Lib.hid OP
  have c15 := h.cells.cs.2.2.2.2.2.2.2.2.2.2.2.2.2.2.2
  have c2 := h.cells.cs.2.2.1
  rw [hd] at c15
  have XL : x.begins = XS.next { x with ge := x.ge + 1, ep := x.ge + 1, sq := 0, ask := zfr, age := 0, W := 1, L := 32, T := 2, G := 0, ln := [], kn := false, fu := [] } := by
    unfold XS.begins; rw [if_neg (by simp [hd]), if_neg (by omega)]
  rw [XL]
  have NX := Lib.hid (fun (w' : World) (A : XA) (X : XAt w0 w' xb A { x with ge := x.ge + 1, ep := x.ge + 1, sq := 0, ask := zfr, age := 0, W := 1, L := 32, T := 2, G := 0, ln := [], kn := false, fu := [] }) => xnext_ask (E := E) X rfl hn (show (0 : Nat) < 65536 by decide) h2 h4)
  obtain ⟨r, hr⟩ : ∃ r, XS.next { x with ge := x.ge + 1, ep := x.ge + 1, sq := 0, ask := zfr, age := 0, W := 1, L := 32, T := 2, G := 0, ln := [], kn := false, fu := [] } = r := ⟨_, rfl⟩
  rw [hr] at NX ⊢
  clear h hr XL g1 g2 g3 h2 h4 h5 h8 hn hd
  go_enter Tryz.func156, Tryz.ntmps156
  go_wp2_with fail
  refine OP.out.mono ?_
  rintro e w1 ⟨rfl, hg1, hc1⟩
  have P1 := HX.out.open hc1 hg1
  have f4 := P1.cells.fz 4
  have f5 := P1.cells.fz 5
  have f6 := P1.cells.fz 6
  have f7 := P1.cells.fz 7
  have f8 := P1.cells.fz 8
  have f9 := P1.cells.fz 9
  have f10 := P1.cells.fz 10
  obtain ⟨c0, c1, c2, c3, c4, c5, c6, c7, c8, c9, c10, c11, c12, c13, c14, c15⟩ := P1.cells.cs
  have P1 := Lib.hid P1
  clear hg1 hc1 HX OP c0 c1 c2 c3 c11 c12 c13 c14 c15
  have Q4 := P1.out.set 4 (.int .i64 ((x.ge : Int) + 1)) (A' := A) (pf' := pf) (pu' := pu) (x' := { x with ge := x.ge + 1, ep := x.ge + 1 }) (by first | rfl | simp [xcells, bs_nil]) (fun w2 h => ⟨h.fr, h.tt, h.nt, h.ln, h.gt, h.lm, h.bel⟩)
  have Q5 := Q4.set 5 (.int .i64 0) (A' := A) (pf' := pf) (pu' := pu) (x' := { x with ge := x.ge + 1, ep := x.ge + 1, sq := 0 }) (by first | rfl | simp [xcells, bs_nil]) (fun w2 h => ⟨h.fr, h.tt, h.nt, h.ln, h.gt, h.lm, h.bel⟩)
  have Q6 := Q5.set 6 (.int .u8 0) (A' := A) (pf' := pf) (pu' := pu) (x' := { x with ge := x.ge + 1, ep := x.ge + 1, sq := 0, ask := ⟨0, x.ask.e, x.ask.q, x.ask.d⟩ }) (by first | rfl | simp [xcells, bs_nil]) (fun w2 h => ⟨h.fr, h.tt, h.nt, h.ln, h.gt, h.lm, h.bel⟩)
  have Q7 := Q6.set 7 (.int .i64 0) (A' := A) (pf' := pf) (pu' := pu) (x' := { x with ge := x.ge + 1, ep := x.ge + 1, sq := 0, ask := ⟨0, 0, x.ask.q, x.ask.d⟩ }) (by first | rfl | simp [xcells, bs_nil]) (fun w2 h => ⟨h.fr, h.tt, h.nt, h.ln, h.gt, h.lm, h.bel⟩)
  have Q8 := Q7.set 8 (.int .i64 0) (A' := A) (pf' := pf) (pu' := pu) (x' := { x with ge := x.ge + 1, ep := x.ge + 1, sq := 0, ask := ⟨0, 0, 0, x.ask.d⟩ }) (by first | rfl | simp [xcells, bs_nil]) (fun w2 h => ⟨h.fr, h.tt, h.nt, h.ln, h.gt, h.lm, h.bel⟩)
  have Q9 := Q8.set 9 (.string ⟨#[]⟩) (A' := A) (pf' := pf) (pu' := pu) (x' := { x with ge := x.ge + 1, ep := x.ge + 1, sq := 0, ask := ⟨0, 0, 0, []⟩ }) (by first | rfl | simp [xcells, bs_nil]) (fun w2 h => ⟨h.fr, h.tt, h.nt, h.ln, h.gt, h.lm, h.bel⟩)
  have Q10 := Q9.set 10 (.int .i64 0) (A' := A) (pf' := pf) (pu' := pu) (x' := { x with ge := x.ge + 1, ep := x.ge + 1, sq := 0, age := 0, ask := ⟨0, 0, 0, []⟩ }) (by first | rfl | simp [xcells, bs_nil]) (fun w2 h => ⟨h.fr, h.tt, h.nt, h.ln, h.gt, h.lm, h.bel⟩)
  have Q := Lib.hid Q10
  clear Q4 Q5 Q6 Q7 Q8 Q9 Q10 P1
  go_wp2_with fail
  generalize (((((((w1.setCell ⟨xb, 4, none⟩ (.int .i64 ((x.ge : Int) + 1))).setCell ⟨xb, 5, none⟩ (.int .i64 0)).setCell ⟨xb, 6, none⟩ (.int .u8 0)).setCell ⟨xb, 7, none⟩ (.int .i64 0)).setCell ⟨xb, 8, none⟩ (.int .i64 0)).setCell ⟨xb, 9, none⟩ (.string ⟨#[]⟩)).setCell ⟨xb, 10, none⟩ (.int .i64 0)) = w2 at *
  clear c4 c5 c6 c7 c8 c9 c10 f4 f5 f6 f7 f8 f9 f10
  have FN := new_is w2
  refine FN.mono ?_
  rintro e w3 ⟨rfl, hf3, b3⟩
  have P3 := Q.out.below b3
  have hlx := lt_of_block Q.out.cells
  have P4 := P3.below (wb_alloc w3 (.map #[] 0))
  have hlb : w2.heap.size < w3.heap.size := hf3.lt
  have hf4 : FlowAt (w3.alloc (.map #[] 0)) w2.heap.size 1 32 2 0 := ((wb_alloc w3 (.map #[] 0)).block _ hlb).trans hf3
  have hm4 : FMapIs (w3.alloc (.map #[] 0)) w3.heap.size 0 [] := FMapIs.made w3
  have hmb : A.mb < w3.heap.size := by
    obtain ⟨es, c, hm⟩ := P3.rest.gt.mapObj
    exact lt_of_block hm
  have hb2 := Q.out.rest.bel.size
  have f11 := P4.cells.fz 11
  have f12 := P4.cells.fz 12
  have f13 := P4.cells.fz 13
  have f14 := P4.cells.fz 14
  obtain ⟨c0, c1, c2, c3, c4, c5, c6, c7, c8, c9, c10, c11, c12, c13, c14, c15⟩ := P4.cells.cs
  have R11 := P4.set 11 (.pointer (some ⟨w2.heap.size, 0, none⟩)) (A' := A) (pf' := .pointer (some ⟨w2.heap.size, 0, none⟩)) (pu' := pu) (x' := { x with ge := x.ge + 1, ep := x.ge + 1, sq := 0, ask := ⟨0, 0, 0, []⟩, age := 0 }) rfl (fun w2 h => ⟨h.fr, h.tt, h.nt, h.ln, h.gt, h.lm, h.bel⟩)
  have R12 := R11.set 12 (.slice none 0 0) (A' := { A with vl := .slice none 0 0 }) (pf' := .pointer (some ⟨w2.heap.size, 0, none⟩)) (pu' := pu) (x' := { x with ge := x.ge + 1, ep := x.ge + 1, sq := 0, ask := ⟨0, 0, 0, []⟩, age := 0, ln := [] }) rfl (fun w2 h => ⟨h.fr, h.tt, h.nt, World.ownsRow_nil _ _ _ _, h.gt, h.lm, h.bel⟩)
  have R13 := R12.set 13 (.bool false) (A' := { A with vl := .slice none 0 0 }) (pf' := .pointer (some ⟨w2.heap.size, 0, none⟩)) (pu' := pu) (x' := { x with ge := x.ge + 1, ep := x.ge + 1, sq := 0, ask := ⟨0, 0, 0, []⟩, age := 0, ln := [], kn := false }) rfl (fun w2 h => ⟨h.fr, h.tt, h.nt, h.ln, h.gt, h.lm, h.bel⟩)
  have R14 := R13.set 14 (.map (some w3.heap.size)) (A' := { A with vl := .slice none 0 0, fb := w2.heap.size, ub := w3.heap.size }) (pf' := .pointer (some ⟨w2.heap.size, 0, none⟩)) (pu' := .map (some w3.heap.size)) (x' := { x with ge := x.ge + 1, ep := x.ge + 1, sq := 0, ask := zfr, age := 0, W := 1, L := 32, T := 2, G := 0, ln := [], kn := false, fu := [] }) rfl (fun w2 h => ⟨h.fr, h.tt, h.nt, h.ln, h.gt, h.lm, h.bel⟩)
  have hcc := (((XCell.chg (w3.alloc (.map #[] 0)) xb 11 (.pointer (some ⟨w2.heap.size, 0, none⟩))).set ⟨xb, 12, none⟩ (.inl rfl) (.slice none 0 0)).set ⟨xb, 13, none⟩ (.inl rfl) (.bool false)).set ⟨xb, 14, none⟩ (.inl rfl) (.map (some w3.heap.size))
  have XA0 := Lib.hid (NX.out _ _ ⟨R14.cells, R14.rest, (hcc.block w2.heap.size (by simp; omega) (by omega)).trans hf4, hm4.kept (hcc.block w3.heap.size (by simp) (by omega)), by show w3.heap.size ≠ A.mb; omega, R14.lx, by show _ ≤ w2.heap.size; exact hb2, by show _ ≤ w3.heap.size; omega⟩)
  have hmm := @run_makeMap Tryz.prog
  clear R11 R12 R13 R14 hcc hm4 hf4 hf3 b3 P3 P4 Q NX FN c0 c1 c2 c3 c4 c5 c6 c7 c8 c9 c10 c15
  go_wp2_with fail
  refine XA0.out.mono ?_
  rintro e w4 ⟨rfl, A', hA⟩
  have HA := Lib.hid hA
  clear hA XA0
  go_wp2_with fail
  go_returns
  exact ⟨rfl, A', HA.out⟩
end
end Go.Proofs.YtppkeophochgiaaGreatDoor
/- Contracts of a transfer: New, To, Done, Under. -/
namespace Go.Proofs.YtppkeophochgiaaGreatDoor
open Go.RowKit
set_option linter.unusedVariables false
section
variable {E : Nat → Addr} {w0 w w' : World} {xb : Nat} {A : XA} {x : XS}
set_option maxRecDepth 100000 in
set_option maxHeartbeats 6400000 in
theorem xnew_any (fr t : List PF) (v1 v2 : Value) (w : World) (h1 : SliceIs w v1 2 (fcells fr)) (h2 : SliceIs w v2 2 (fcells t)) (hf : FWF fr) (ht : FWF t) (e2 : Has E w 2) (e4 : Has E w 4) (e5 : Has E w 5) (e8 : Has E w 8) (e9 : Has E w 9) :
    Calls Tryz.prog 114 #[v1, v2] w fun e w' => ∃ xb A', e = .returned (.tuple #[.pointer (some ⟨xb, 0, none⟩), .nilIface]) ∧ XAt w w' xb A' (XS.start fr t) := by
  have C1 := Lib.hid (flcheck_any E fr v1 w h1 hf.okx (by have := hf.few; omega) e2 e5 e8 e9)
  have C2 := Lib.hid (fun (w' : World) (b : Below w.heap.size w w') => flcheck_any E t v2 w' (h2.below b) ht.okx (by have := ht.few; omega) (e2.below b) (e5.below b) (e8.below b) (e9.below b))
  have K1 := Lib.hid (fun (w' : World) (b : Below w.heap.size w w') => flclone_any fr v1 w' (h1.below b) (by have := hf.few; omega))
  have K2 := Lib.hid (fun (w' : World) (b : Below w.heap.size w w') => flclone_any t v2 w' (h2.below b) (by have := ht.few; omega))
  have Z1 := Lib.hid ((flFault_wf fr).2 hf)
  have Z2 := Lib.hid ((flFault_wf t).2 ht)
  have BG := Lib.hid (fun (w' : World) (xb : Nat) (A : XA) (X : XPre w w' xb A (.pointer none) (.map none) ⟨fr, t, 0, [], 0, 0, zfr, 0, 1, 32, 2, 0, [], false, [], false⟩) => xbegin_any (E := E) X rfl (show (0 : Nat) < 1000000 by decide) (show ([] : List (List UInt8 × Bool)).length ≤ 1000000000 by decide) e2 e4 e5 e8)
  clear h1 h2 hf ht e2 e4 e5 e8 e9
  go_enter Tryz.func114, Tryz.ntmps114
  go_wp2_with fail
  refine C1.out.mono ?_
  rintro e w1 ⟨r, rfl, fe, b1⟩
  rw [Z1.out] at fe
  obtain rfl := fe.zero
  clear fe C1
  go_wp2_with fail
  refine (C2.out _ b1).mono ?_
  rintro e w2 ⟨r, rfl, fe, b2⟩
  rw [Z2.out] at fe
  obtain rfl := fe.zero
  have b2 := below_trans' b1 b2
  clear fe C2 b1
  go_wp2_with fail
  refine (K1.out _ b2).mono ?_
  rintro e w3 ⟨rf, rfl, of, b3⟩
  have of := owns_mono' of b2.size
  have b3' := below_trans' b2 b3
  clear b2 b3 K1
  go_wp2_with fail
  refine (K2.out _ b3').mono ?_
  rintro e w4 ⟨rt, rfl, ot, b4⟩
  have of := owns_below of b4
  have ot := owns_mono' ot b3'.size
  have b4' := below_trans' b3' b4
  clear b3' b4 K2
  go_wp2_with fail
  refine (gnew_any w4).mono ?_
  rintro e w5 ⟨gb, mb, rfl, hg, b5, l1, l2⟩
  have hsz := b4'.size
  have of := owns_below of b5
  have ot := owns_below ot b5
  have b5' := below_trans' b4' b5
  have HB := Lib.hid (wb_alloc w5 (.cells #[rf, rt, .pointer (some ⟨gb, 0, none⟩), .slice none 0 0, .int .i64 0, .int .i64 0, .int .u8 0, .int .i64 0, .int .i64 0, .string ⟨#[]⟩, .int .i64 0, .pointer none, .slice none 0 0, .bool false, .map none, .bool false] 252))
  have XP : XPre w (w5.alloc (.cells #[rf, rt, .pointer (some ⟨gb, 0, none⟩), .slice none 0 0, .int .i64 0, .int .i64 0, .int .u8 0, .int .i64 0, .int .i64 0, .string ⟨#[]⟩, .int .i64 0, .pointer none, .slice none 0 0, .bool false, .map none, .bool false] 252)) w5.heap.size ⟨rf, rt, .slice none 0 0, .slice none 0 0, gb, mb, 0, 0⟩ (.pointer none) (.map none) ⟨fr, t, 0, [], 0, 0, zfr, 0, 1, 32, 2, 0, [], false, [], false⟩ :=
    ⟨by unfold XCell xcells; rw [heap_alloc_new, show bs zfr.d = ⟨#[]⟩ from bs_nil]; rfl, ⟨owns_below of HB.out, owns_below ot HB.out, World.ownsRow_nil _ _ _ _, World.ownsRow_nil _ _ _ _, hg.below HB.out, Nat.le_trans hsz l2, below_trans' b5' HB.out⟩, by have := b5'.size; omega⟩
  have BGX := Lib.hid (BG.out _ _ _ XP)
  obtain ⟨fa, fc, rfl⟩ := owns_slice of
  obtain ⟨ta, tc, rfl⟩ := owns_slice ot
  clear XP of ot hg b4' b5 b5' HB BG l1 l2
  go_wp2_with fail
  refine BGX.out.mono ?_
  rintro e w6 ⟨rfl, A', hA⟩
  have HA := Lib.hid hA
  clear hA BGX
  go_wp2_with fail
  go_ret2
  exact ⟨_, A', rfl, HA.out⟩
set_option maxRecDepth 100000 in
theorem xto_any (h : XAt w0 w xb A x) (hl : x.tt.length ≤ 1000000) :
    Calls Tryz.prog 117 #[.pointer (some ⟨xb, 0, none⟩)] w fun e w' => ∃ r, e = .returned r ∧ w'.ownsRow w.heap.size 130 2 r x.tt.length (fcells x.tt) ∧ Below w.heap.size w w' := by
  have CL := Lib.hid (flclone_any x.tt A.vt w (SliceIs.ownedK h.rest.tt) hl)
  have c1 := h.cells.cs.2.1
  clear h
  go_enter Tryz.func117, Tryz.ntmps117
  go_wp2_with fail
  refine CL.out.mono ?_
  rintro e w1 ⟨r, rfl, o1, b1⟩
  have O1 := Lib.hid o1
  have B1 := Lib.hid b1
  obtain ⟨va, vc, rfl⟩ := owns_slice o1
  clear o1 b1 CL c1
  go_wp2_with fail
  go_ret
  exact ⟨_, rfl, O1.out, B1.out⟩
end
end Go.Proofs.YtppkeophochgiaaGreatDoor
/- slices.Delete at a transfer's packets: one packet is taken out. -/
namespace Go.Proofs.YtppkeophochgiaaGreatDoor
open Go.RowKit
set_option linter.unusedVariables false
section
variable {α : Type}
def layL (l : List α) (k : Nat) : List α → List α
  | [] => l
  | x :: m => layL (l.set k x) (k + 1) m
theorem layL_is (m : List α) : ∀ (l : List α) (k : Nat), k + m.length ≤ l.length → layL l k m = l.take k ++ m ++ l.drop (k + m.length) := by
  induction m with
  | nil => intro l k h; simp [layL]
  | cons x m ih =>
    intro l k h
    rw [List.length_cons] at h
    unfold layL
    have hk : k < l.length := by omega
    rw [ih _ _ (by rw [List.length_set]; omega)]
    have e1 : (l.set k x).take (k + 1) = l.take k ++ [x] := by
      rw [List.take_succ_eq_append_getElem (by rw [List.length_set]; exact hk), List.getElem_set_self, List.take_set_of_le (Nat.le_refl k)]
    have e2 : (l.set k x).drop (k + 1 + m.length) = l.drop (k + (m.length + 1)) := by
      rw [List.drop_set_of_lt (by omega)]
      congr 1
      omega
    rw [e1, e2]
    simp
theorem layL_erase {l : List α} {k : Nat} (h : k < l.length) : (layL l k (l.drop (k + 1))).take (l.length - 1) = l.eraseIdx k := by
  rw [layL_is _ _ _ (by rw [List.length_drop]; omega), List.eraseIdx_eq_take_drop_succ]
  rw [List.take_append_of_le_length (by simp; omega)]
  exact List.take_of_length_le (by simp; omega)
variable (f g : α → Value)
theorem own_lays {base g0 cap n : Nat} {e : TypeId} (m : List α) : ∀ {w : World} {l : List α} (k : Nat), w.ownsRow base e 2 (.slice (some ⟨g0, 0, none⟩) n cap) n (rowc f g l) →
    (w.setCells g0 (k * 2) (rowc f g m)).ownsRow base e 2 (.slice (some ⟨g0, 0, none⟩) n cap) n (rowc f g (layL l k m)) ∧ w.grownBy (w.setCells g0 (k * 2) (rowc f g m)) (some g0) := by
  induction m with
  | nil => intro w l k h; exact ⟨h, rfl, rfl, rfl, Nat.le_refl _, fun _ _ _ => rfl⟩
  | cons x m ih =>
    intro w l k h
    have h1 := own2_store f g h k x
    obtain ⟨h2, h3⟩ := ih (k + 1) h1
    rw [show (k + 1) * 2 = k * 2 + 1 + 1 by omega] at h2 h3
    refine ⟨h2, ?_⟩
    exact grownBy_trans (grownBy_trans (grownBy_set w g0 (k * 2) (f x)) (grownBy_set _ g0 (k * 2 + 1) (g x))) h3
end
theorem pcells_drop (l : List (List UInt8 × Bool)) (k : Nat) : (pcells l).drop (k * 2) = pcells (l.drop k) := by
  induction l generalizing k with
  | nil => simp [pcells, rowc]
  | cons o l ih =>
    match k with
    | 0 => simp
    | k + 1 =>
      rw [List.drop_succ_cons, ← ih k, show (k + 1) * 2 = k * 2 + 2 by omega]
      rfl
theorem zeroPk (w : World) : (zeroValue 255).run Tryz.prog w = .ok (.agg #[.string ⟨#[]⟩, .bool false]) w := by kernel_rfl
theorem own_is {w : World} {base n : Nat} {e : TypeId} {size : Nat} {v : Value} {xs : List Value} (h : w.ownsRow base e size v n xs) (hn : 0 < n) : ∃ g cap, v = .slice (some ⟨g, 0, none⟩) n cap ∧ n ≤ cap ∧ cap ≤ maxLen := by
  rcases h.2 with ⟨rfl, h0⟩ | ⟨g, cap, cur, hv, hg, hh, h3, h4, h5, h6⟩
  · first | omega | (have := h.1; simp_all)
  · exact ⟨g, cap, hv, h3, h4⟩
section
set_option maxRecDepth 100000 in
set_option maxHeartbeats 6400000 in
theorem xdel_any (l : List (List UInt8 × Bool)) (base k : Nat) (v : Value) (w : World) (hown : w.ownsRow base 255 2 v l.length (pcells l)) (hk : k < l.length) (hl : l.length ≤ 1000000000) :
    Calls Tryz.prog 159 #[v, .int .i64 k, .int .i64 ((k : Int) + 1)] w fun e w' => ∃ r, e = .returned r ∧ w'.ownsRow base 255 2 r (l.eraseIdx k).length (pcells (l.eraseIdx k)) ∧ w.grownBy w' v.ownBlock := by
  obtain ⟨g, cap, rfl, hc1, hc2⟩ := own_is hown (by omega)
  obtain ⟨i0, hi, hs0, hs1, hs2⟩ := info_parts infoPk
  have HO := Lib.hid hown
  obtain ⟨n, hn⟩ : ∃ n, l.length = n := ⟨_, rfl⟩
  rw [hn] at hk hl hc1 hown ⊢
  have y1 : (0 : Int) ≤ k := by omega
  have y2 : (k : Int).toNat = k := by omega
  have y3 : ((k : Int) + 1).toNat = k + 1 := by omega
  have y4 : (k : Int) + 1 ≤ n := by omega
  have y5 : (k : Int) ≤ (k : Int) + 1 := by omega
  have y6 : (n : Int) ≤ cap := by omega
  have y7 : (0 : Int) ≤ (k : Int) + 1 := by omega
  have y8 : ((k : Int) == (k : Int) + 1) = false := by rw [beq_eq_false_iff_ne]; omega
  have SRC : ∀ j u, (pcells (l.drop (k + 1)))[j]? = some u → w.cell? ((⟨g, (k + 1) * 2, none⟩ : Addr).add j) = some u := by
    intro j u hj
    have hlt := (List.getElem?_eq_some_iff.1 hj).1
    rw [pcells_len, List.length_drop] at hlt
    have := HO.out.cellAt ((k + 1) * 2 + j) (by omega)
    rw [show ((⟨g, (k + 1) * 2, none⟩ : Addr).add j) = ⟨g, (k + 1) * 2 + j, none⟩ from by simp [Addr.add_lit], this, ← hj, ← pcells_drop, List.getElem?_drop]
  have NL : (pcells (l.drop (k + 1))).length = (n - (k + 1)) * 2 := by rw [pcells_len, List.length_drop, hn]
  have HONE := Lib.hid (show ∀ u ∈ pcells (l.drop (k + 1)), u.oneCell' = true from rowc_oneCell _ _ (fun _ => ⟨rfl, rfl⟩) _)
  have SPARE : ∀ j, j < (pcells (l.drop (k + 1))).length → (w.cell? ⟨g, 0 + k * 2 + j, none⟩).isSome = true ∧ w.frozen? ⟨g, 0 + k * 2 + j, none⟩ = false := by
    intro j hj
    refine ⟨?_, HO.out.frozenAt _⟩
    rw [HO.out.cellAt _ (by omega), List.getElem?_eq_getElem (by rw [pcells_len]; omega)]
    rfl
  obtain ⟨OL, GL⟩ : (w.drew.setCells g (k * 2) (pcells (l.drop (k + 1)))).ownsRow base 255 2 (.slice (some ⟨g, 0, none⟩) l.length cap) l.length (pcells (layL l k (l.drop (k + 1)))) ∧ w.drew.grownBy (w.drew.setCells g (k * 2) (pcells (l.drop (k + 1)))) (some g) := by
    have := owns_below HO.out (Below.drew (Below.refl _ _))
    exact own_lays pk0 pk1 (l.drop (k + 1)) k this
  have SRC := Lib.hid SRC
  have NL := Lib.hid NL
  have SPARE := Lib.hid SPARE
  have z1 : k + (n - (k + 1)) = n - 1 := by omega
  rw [hn] at OL
  obtain ⟨w3, hrun, O3, G3⟩ := run_clear_own (P := Tryz.prog) (t := 246) (k := n - 1) OL (by omega) (by decide) Tryz.underlying246 (zeroPk _) rfl (by intro u hu; simp [Value.cells] at hu; rcases hu with rfl | rfl <;> rfl)
  have R1 := Lib.hid (show pcells (l.eraseIdx k) = (pcells (layL l k (l.drop (k + 1)))).take ((n - 1) * 2) by unfold pcells; rw [rowc_take, ← hn, layL_erase (by omega)])
  have R2 := Lib.hid (show (l.eraseIdx k).length = n - 1 by rw [List.length_eraseIdx_of_lt (by omega), hn])
  have O4 := Lib.hid O3
  clear O3
  have G4 := Lib.hid (grownBy_trans (grownBy_trans (grownBy_below (Below.drew (Below.refl _ _))) GL) G3)
  have y9 : ((n - 1 : Nat) : Int).toNat = n - 1 := by omega
  have y10 : ((n - 1 : Nat) : Int) ≤ n := by omega
  have y11 : (0 : Int) ≤ ((n - 1 : Nat) : Int) := by omega
  have y12 : ¬ cap = n - 1 := by omega
  clear hown OL GL
  have hsz : i0.size = 2 := by first | exact hs1 | exact hs2
  have y13 : (k : Int) ≤ cap := by omega
  have y14 : (k : Int) + 1 ≤ cap := by omega
  have y15 : ((n - 1 : Nat) : Int) ≤ cap := by omega
  generalize pcells (layL l k (l.drop (k + 1))) = lay at *
  generalize pcells (l.drop (k + 1)) = news at *
  by_cases hcap : cap = k + 1
  · subst hcap
    obtain rfl : n = k + 1 := by omega
    have hnn : news = [] := List.eq_nil_of_length_eq_zero (by have := NL.out; omega)
    subst hnn
    have NN := Lib.hid (show ([] : List Value).length = 0 * 2 from rfl)
    have NS := Lib.hid (show ∀ j u, ([] : List Value)[j]? = some u → w.drew.cell? ((⟨g, 0, none⟩ : Addr).add j) = some u from fun j u h => by simp at h)
    have HONE := Lib.hid (show ∀ u ∈ ([] : List Value), u.oneCell' = true from fun u h => by cases h)
    have SPARE := Lib.hid (show ∀ j, j < ([] : List Value).length → (w.drew.cell? ⟨g, 0 + k * 2 + j, none⟩).isSome = true ∧ w.drew.frozen? ⟨g, 0 + k * 2 + j, none⟩ = false from fun j h => by simp at h)
    go_enter Tryz.func159, Tryz.ntmps159
    go_wp2_with fail
    go_region_law (refine step_append_room rfl (.tmp 22) (.tmp 25) 246 rfl 255 i0 2 Tryz.underlying246 hi hsz g 0 k (k + 1) (by simp [Act.eval, Act.put]) ⟨g, 0, none⟩ 0 0 [] (by simp [Act.eval, Act.put]) NN.out NS.out HONE.out (by omega) SPARE.out ?_)
    all_goals
      generalize w.drew.setCells g (k * 2) [] = w2 at *
      simp only [Nat.add_sub_cancel, Nat.add_sub_cancel_left] at hrun
      go_wp2_with fail
      go_ret
      exact ⟨_, rfl, by rw [R1.out, R2.out]; exact O4.out, G4.out⟩
  · go_enter Tryz.func159, Tryz.ntmps159
    go_wp2_with fail
    go_region_law (refine step_append_room rfl (.tmp 22) (.tmp 25) 246 rfl 255 i0 2 Tryz.underlying246 hi hsz g 0 k cap (by simp [Act.eval, Act.put]) ⟨g, (k + 1) * 2, none⟩ (n - (k + 1)) (cap - (k + 1)) news (by simp [Act.eval, Act.put]) NL.out (SRC.out) HONE.out (by omega) SPARE.out ?_)
    generalize w.drew.setCells g (k * 2) news = w2 at *
    go_wp2_with fail
    go_ret
    exact ⟨_, rfl, by rw [R1.out, R2.out]; exact O4.out, G4.out⟩
end
section
variable {E : Nat → Addr} {w0 w : World} {xb : Nat} {A : XA} {x : XS}
/-- the net's row changed in its own block -/
theorem XAt.netTo (h : XAt w0 w xb A x) {w' : World} {v' : Value} {net' : List (List UInt8 × Bool)} (hg : w.grownBy w' A.vn.ownBlock) (hn : w'.ownsRow w0.heap.size 255 2 v' net'.length (pcells net')) :
    XAt w0 (w'.setCell ⟨xb, 3, none⟩ v') xb { A with vn := v' } { x with net := net' } := by
  have hc : Chg w w' (fun b => A.vn.ownBlock = some b) := ⟨hg.os, hg.tape, hg.output, hg.size, fun k hk hn => hg.block k hk (fun e => hn e.symm)⟩
  obtain ⟨es, c, hm⟩ := h.fu.isMap
  have h1 : XCell w' xb A (.pointer (some ⟨A.fb, 0, none⟩)) (.map (some A.ub)) x := (hc.block xb (lt_of_block h.cells) (own_ne h.rest.nt h.cells (by decide))).trans h.cells
  have h2 : FlowAt w' A.fb x.W x.L x.T x.G := (hc.block A.fb h.fl.lt (own_ne h.rest.nt h.fl (by decide))).trans h.fl
  have h3 : FMapIs w' A.ub x.fu.length x.fu := h.fu.kept (hc.block A.ub h.fu.lt (own_ne_map h.rest.nt hm))
  have hr := h.rest.netAt hc hn
  have hc2 := XCell.chg w' xb 3 v'
  have hs : XCell (w'.setCell ⟨xb, 3, none⟩ v') xb { A with vn := v' } (.pointer (some ⟨A.fb, 0, none⟩)) (.map (some A.ub)) { x with net := net' } := h1.set 3 v' rfl
  obtain ⟨es2, c2, hm2⟩ := h3.isMap
  refine ⟨hs, hr.at hc2 h1 (by decide) h.lx, ?_, ?_, h.ne, h.lx, h.lf, h.lu⟩
  · exact (hc2.block A.fb h2.lt (cells_ne h2 h1 (by decide))).trans h2
  · exact h3.kept (hc2.block A.ub h3.lt (fun e => cells_map h1 hm2 e.symm))
theorem XAt.netCell (h : XAt w0 w xb A x) {w' : World} (hg : w.grownBy w' A.vn.ownBlock) : w'.frozen? ⟨xb, 3, none⟩ = false ∧ w'.cell? ⟨xb, 3, none⟩ = some A.vn := by
  have h1 : XCell w' xb A (.pointer (some ⟨A.fb, 0, none⟩)) (.map (some A.ub)) x := (hg.block xb (lt_of_block h.cells) (fun e => own_ne h.rest.nt h.cells (by decide) e.symm)).trans h.cells
  exact ⟨h1.fz 3, h1.cs.2.2.2.1⟩
end
end Go.Proofs.YtppkeophochgiaaGreatDoor
