/- Texts of one proof, one behind the other: XferAt, XferPut, XferAsk, XferWant, XferNext, XferListed, XferBegin, XferNew, XferDel, XferTurn, Cells4. -/
import Derived.Test.YtdpoalbbcmkceaaGreatDoorB42
import Derived.Test.YtdpoalbbcmkceaaGreatDoorB33
import Derived.Test.YtdpoalbbcmkceaaGreatDoorB34
import Derived.Test.YtdpoalbbcmkceaaGreatDoorB23
import Derived.Test.YtdpoalbbcmkceaaGreatDoorB19
import Derived.Test.YtdpoalbbcmkceaaGreatDoorB25
import Derived.Test.YtdpoalbbcmkceaaGreatDoorB18
import Derived.Test.YtdpoalbbcmkceaaGreatDoorB41
import Derived.Test.YtdpoalbbcmkceaaGreatDoorB37
import Derived.Test.YtdpoalbbcmkceaaGreatDoorB36
import Derived.Deep.RegionLaw
import Derived.Test.YtdpoalbbcmkceaaGreatDoorB02
/- A transfer in memory: its cells, and what they lead to. -/
namespace Go.Proofs.YtdpoalbbcmkceaaGreatDoor
open Go.RowKit
set_option linter.unusedVariables false

def pk0 (p : List UInt8 × Bool) : Value := .string (bs p.1)
def pk1 (p : List UInt8 × Bool) : Value := .bool p.2
def pcells (l : List (List UInt8 × Bool)) : List Value := rowc pk0 pk1 l
theorem pcells_len (l : List (List UInt8 × Bool)) : (pcells l).length = l.length * 2 := rowc_len _ _ l
theorem pcells_get (l : List (List UInt8 × Bool)) (k : Nat) (h : k < l.length) : (pcells l)[k * 2]? = some (.string (bs l[k].1)) ∧ (pcells l)[k * 2 + 1]? = some (.bool l[k].2) := rowc_get _ _ l k h
theorem pcells_append (l m : List (List UInt8 × Bool)) : pcells (l ++ m) = pcells l ++ pcells m := rowc_append _ _ l m
theorem pcells_one (p : List UInt8 × Bool) : pcells [p] = [.string (bs p.1), .bool p.2] := rfl
def tokX : List UInt8 := [120]
/-- the gate's map: the one token, once there is an epoch -/
def gmap (n : Nat) : GM := if n = 0 then [] else [(tokX, n)]
theorem gmap_glk (n : Nat) : glk (gmap n) tokX = n := by
  unfold gmap
  by_cases h : n = 0
  · rw [if_pos h, h]; rfl
  · rw [if_neg h]; simp [glk]
/-- the addresses of a transfer's parts -/
structure XA where
  vf : Value
  vt : Value
  vn : Value
  vl : Value
  gb : Nat
  mb : Nat
  fb : Nat
  ub : Nat
def xcells (A : XA) (pf pu : Value) (x : XS) : Array Value := #[A.vf, A.vt, .pointer (some ⟨A.gb, 0, none⟩), A.vn, .int .i64 x.ep, .int .i64 x.sq, .int .u8 x.ask.k.toNat, .int .i64 x.ask.e, .int .i64 x.ask.q, .string (bs x.ask.d), .int .i64 x.age, pf, A.vl, .bool x.kn, pu, .bool x.dn]
/-- all but its own cells, the flow and the names that want all -/
structure XRest (w0 w : World) (A : XA) (x : XS) : Prop where
  fr : w.ownsRow w0.heap.size 49 2 A.vf x.fr.length (fcells x.fr)
  tt : w.ownsRow w0.heap.size 49 2 A.vt x.tt.length (fcells x.tt)
  nt : w.ownsRow w0.heap.size 62 2 A.vn x.net.length (pcells x.net)
  ln : w.ownsRow w0.heap.size 39 3 A.vl x.ln.length (lcells x.ln)
  gt : GtAt w A.gb A.mb x.ge (gmap x.ge)
  lm : w0.heap.size ≤ A.mb
  bel : Below w0.heap.size w0 w
def XCell (w : World) (xb : Nat) (A : XA) (pf pu : Value) (x : XS) : Prop := w.heap[xb]? = some (.cells (xcells A pf pu x) 59 (0, 0))
structure XAt (w0 w : World) (xb : Nat) (A : XA) (x : XS) : Prop where
  cells : XCell w xb A (.pointer (some ⟨A.fb, 0, none⟩)) (.map (some A.ub)) x
  rest : XRest w0 w A x
  fl : FlowAt w A.fb x.W x.L x.T x.G
  fu : FMapIs w A.ub x.fu.length x.fu
  ne : A.ub ≠ A.mb
  lx : w0.heap.size ≤ xb
  lf : w0.heap.size ≤ A.fb
  lu : w0.heap.size ≤ A.ub
section
variable {w0 w w' : World} {xb : Nat} {A : XA} {x : XS} {pf pu : Value}
theorem cells_ne {a b : Nat} {cs cs' : Array Value} {t t' : TypeId} {f f' : Nat × Nat} (h1 : w.heap[a]? = some (.cells cs t f)) (h2 : w.heap[b]? = some (.cells cs' t' f')) (hne : t ≠ t') : a ≠ b := by
  rintro rfl
  rw [h1] at h2
  injection h2 with h2
  injection h2 with _ h3 _
  exact hne h3
theorem cells_map {a b : Nat} {cs : Array Value} {t : TypeId} {f : Nat × Nat} {es} {c} (h1 : w.heap[a]? = some (.cells cs t f)) (h2 : w.heap[b]? = some (.map es c)) : a ≠ b := by
  rintro rfl
  rw [h1] at h2
  cases h2
/-- a row of one kind of cells is no block of another kind -/
theorem own_ne {base size n : Nat} {e t : TypeId} {v : Value} {xs : List Value} (h : w.ownsRow base e size v n xs) {y : Nat} {cs : Array Value} {f : Nat × Nat} (hy : w.heap[y]? = some (.cells cs t f)) (hne : t ≠ e) : v.ownBlock ≠ some y := by
  rcases h.2 with ⟨rfl, _⟩ | ⟨g, cap, cur, rfl, _, hg, _⟩
  · simp [Value.ownBlock]
  · intro e1
    have : g = y := by simpa [Value.ownBlock] using e1
    subst this
    rw [hg] at hy
    cases hy
    exact hne rfl
theorem own_ne_map {base size n : Nat} {e : TypeId} {v : Value} {xs : List Value} (h : w.ownsRow base e size v n xs) {y : Nat} {es} {c} (hy : w.heap[y]? = some (.map es c)) : v.ownBlock ≠ some y := by
  rcases h.2 with ⟨rfl, _⟩ | ⟨g, cap, cur, rfl, _, hg, _⟩
  · simp [Value.ownBlock]
  · intro e1
    have : g = y := by simpa [Value.ownBlock] using e1
    subst this
    rw [hg] at hy
    cases hy
theorem own_ne_own {b1 b2 s1 s2 n1 n2 : Nat} {e1 e2 : TypeId} {v1 v2 : Value} {xs1 xs2 : List Value} (h1 : w.ownsRow b1 e1 s1 v1 n1 xs1) (h2 : w.ownsRow b2 e2 s2 v2 n2 xs2) (hne : e1 ≠ e2) {y : Nat} (hy : v1.ownBlock = some y) : v2.ownBlock ≠ some y := by
  rcases h1.2 with ⟨rfl, _⟩ | ⟨g, cap, cur, rfl, _, hg, _⟩
  · simp [Value.ownBlock] at hy
  · have : g = y := by simpa [Value.ownBlock] using hy
    subst this
    exact own_ne h2 hg hne
theorem GtAt.mapObj {gb mb n : Nat} {m : GM} (h : GtAt w gb mb n m) : ∃ es c, w.heap[mb]? = some (.map es c) := by
  obtain ⟨D, ⟨es, clock, hb, _⟩, _⟩ := h.map
  exact ⟨es, clock, hb⟩
/-- one block of another kind changes -/
theorem XRest.at (h : XRest w0 w A x) {y : Nat} {cs : Array Value} {t : TypeId} {f : Nat × Nat} (hc : Chg w w' (fun b => b = y)) (hy : w.heap[y]? = some (.cells cs t f)) (ht : t ≠ 49 ∧ t ≠ 62 ∧ t ≠ 39 ∧ t ≠ 77) (lo : w0.heap.size ≤ y) : XRest w0 w' A x := by
  obtain ⟨es, c, hm⟩ := h.gt.mapObj
  refine ⟨own_other h.fr hc (fun z hz e => own_ne h.fr hy ht.1 (by rw [hz, e])), own_other h.tt hc (fun z hz e => own_ne h.tt hy ht.1 (by rw [hz, e])), own_other h.nt hc (fun z hz e => own_ne h.nt hy ht.2.1 (by rw [hz, e])), own_other h.ln hc (fun z hz e => own_ne h.ln hy ht.2.2.1 (by rw [hz, e])), h.gt.kept hc (fun e => ?_) (fun e => ?_), h.lm, hc.below h.bel (fun z hz => by subst hz; exact lo)⟩
  · have := h.gt.cells; rw [e, hy] at this; cases this; exact ht.2.2.2 rfl
  · rw [e, hy] at hm; cases hm
/-- another map changes -/
theorem XRest.mapAt (h : XRest w0 w A x) {y : Nat} {es} {c} (hc : Chg w w' (fun b => b = y)) (hy : w.heap[y]? = some (.map es c)) (hne : y ≠ A.mb) (lo : w0.heap.size ≤ y) : XRest w0 w' A x := by
  refine ⟨own_other h.fr hc (fun z hz e => own_ne_map h.fr hy (by rw [hz, e])), own_other h.tt hc (fun z hz e => own_ne_map h.tt hy (by rw [hz, e])), own_other h.nt hc (fun z hz e => own_ne_map h.nt hy (by rw [hz, e])), own_other h.ln hc (fun z hz e => own_ne_map h.ln hy (by rw [hz, e])), h.gt.kept hc (fun e => ?_) (fun e => hne e.symm), h.lm, hc.below h.bel (fun z hz => by subst hz; exact lo)⟩
  have := h.gt.cells; rw [e, hy] at this; cases this
theorem XRest.below (h : XRest w0 w A x) (hb : Below w.heap.size w w') : XRest w0 w' A x := ⟨owns_below h.fr hb, owns_below h.tt hb, owns_below h.nt hb, owns_below h.ln hb, h.gt.below hb, h.lm, below_trans' h.bel hb⟩
/-- the net's row changes -/
theorem XRest.netAt (h : XRest w0 w A x) {v' : Value} {net' : List (List UInt8 × Bool)} (hc : Chg w w' (fun b => A.vn.ownBlock = some b)) (hn : w'.ownsRow w0.heap.size 62 2 v' net'.length (pcells net')) :
    XRest w0 w' { A with vn := v' } { x with net := net' } := by
  obtain ⟨es, c, hm⟩ := h.gt.mapObj
  refine ⟨own_other h.fr hc (fun z hz e => own_ne_own h.nt h.fr (by decide) e hz), own_other h.tt hc (fun z hz e => own_ne_own h.nt h.tt (by decide) e hz), hn, own_other h.ln hc (fun z hz e => own_ne_own h.nt h.ln (by decide) e hz), h.gt.kept hc (fun e => own_ne h.nt h.gt.cells (by decide) e) (fun e => own_ne_map h.nt hm e), h.lm, hc.below h.bel (fun z hz => own_base h.nt hz)⟩
theorem XAt.below (h : XAt w0 w xb A x) (hb : Below w.heap.size w w') : XAt w0 w' xb A x :=
  ⟨(hb.block xb (lt_of_block h.cells)).trans h.cells, h.rest.below hb, (hb.block A.fb h.fl.lt).trans h.fl, h.fu.kept (hb.block _ h.fu.lt), h.ne, h.lx, h.lf, h.lu⟩
theorem XCell.cs (h : XCell w xb A pf pu x) : w.cell? ⟨xb, 0, none⟩ = some A.vf ∧ w.cell? ⟨xb, 1, none⟩ = some A.vt ∧ w.cell? ⟨xb, 2, none⟩ = some (.pointer (some ⟨A.gb, 0, none⟩)) ∧ w.cell? ⟨xb, 3, none⟩ = some A.vn ∧
    w.cell? ⟨xb, 4, none⟩ = some (.int .i64 x.ep) ∧ w.cell? ⟨xb, 5, none⟩ = some (.int .i64 x.sq) ∧ w.cell? ⟨xb, 6, none⟩ = some (.int .u8 x.ask.k.toNat) ∧ w.cell? ⟨xb, 7, none⟩ = some (.int .i64 x.ask.e) ∧
    w.cell? ⟨xb, 8, none⟩ = some (.int .i64 x.ask.q) ∧ w.cell? ⟨xb, 9, none⟩ = some (.string (bs x.ask.d)) ∧ w.cell? ⟨xb, 10, none⟩ = some (.int .i64 x.age) ∧ w.cell? ⟨xb, 11, none⟩ = some pf ∧ w.cell? ⟨xb, 12, none⟩ = some A.vl ∧
    w.cell? ⟨xb, 13, none⟩ = some (.bool x.kn) ∧ w.cell? ⟨xb, 14, none⟩ = some pu ∧ w.cell? ⟨xb, 15, none⟩ = some (.bool x.dn) := by
  unfold XCell xcells at h
  simp [World.cell?, h]
theorem XCell.fz (h : XCell w xb A pf pu x) (k : Nat) : w.frozen? ⟨xb, k, none⟩ = false := by
  unfold XCell at h
  simp [World.frozen?, h]
theorem XCell.set (h : XCell w xb A pf pu x) (k : Nat) (u : Value) {A' : XA} {pf' pu' : Value} {x' : XS} (e : (xcells A pf pu x).setIfInBounds k u = xcells A' pf' pu' x') : XCell (w.setCell ⟨xb, k, none⟩ u) xb A' pf' pu' x' := by
  have := set_at (k := k) (u := u) h
  rw [e] at this
  exact this
theorem XCell.chg (w : World) (xb k : Nat) (u : Value) : Chg w (w.setCell ⟨xb, k, none⟩ u) (fun b => b = xb) := (Chg.refl w (fun b => b = xb)).set ⟨xb, k, none⟩ (.inl rfl) u
theorem XRest.xset (h : XRest w0 w A x) (hc : XCell w xb A pf pu x) (lo : w0.heap.size ≤ xb) (k : Nat) (u : Value) : XRest w0 (w.setCell ⟨xb, k, none⟩ u) A x :=
  h.at (XCell.chg w xb k u) hc (by decide) lo
/-- a cell is stored -/
theorem XAt.set (h : XAt w0 w xb A x) (k : Nat) (u : Value) {A' : XA} {x' : XS} (e : (xcells A (.pointer (some ⟨A.fb, 0, none⟩)) (.map (some A.ub)) x).setIfInBounds k u = xcells A' (.pointer (some ⟨A'.fb, 0, none⟩)) (.map (some A'.ub)) x')
    (ha : A'.fb = A.fb ∧ A'.ub = A.ub ∧ A'.mb = A.mb) (hx : x'.W = x.W ∧ x'.L = x.L ∧ x'.T = x.T ∧ x'.G = x.G ∧ x'.fu = x.fu) (hr : ∀ w2, XRest w0 w2 A x → XRest w0 w2 A' x') : XAt w0 (w.setCell ⟨xb, k, none⟩ u) xb A' x' := by
  obtain ⟨a1, a2, a4⟩ := ha
  obtain ⟨x1, x2, x3, x4, x5⟩ := hx
  have hc := XCell.chg w xb k u
  obtain ⟨es, c, hm⟩ := h.fu.isMap
  refine ⟨h.cells.set k u e, hr _ (h.rest.xset h.cells h.lx k u), ?_, ?_, by rw [a2, a4]; exact h.ne, h.lx, by rw [a1]; exact h.lf, by rw [a2]; exact h.lu⟩
  · rw [a1, x1, x2, x3, x4]
    exact (hc.block A.fb h.fl.lt (cells_ne h.fl h.cells (by decide))).trans h.fl
  · rw [a2, x5]
    exact h.fu.kept (hc.block A.ub h.fu.lt (fun e => cells_map h.cells hm e.symm))
end
end Go.Proofs.YtdpoalbbcmkceaaGreatDoor
/- Contracts of a transfer: put, ask. -/
namespace Go.Proofs.YtdpoalbbcmkceaaGreatDoor
open Go.RowKit
set_option linter.unusedVariables false

theorem infoPk : (Tryz.prog.info? 62).map (fun i => (i.zero, i.size, i.bytes)) = some (some (.agg #[.string ⟨#[]⟩, .bool false]), 2, 24) := by kernel_rfl
theorem slice_onePk {w : World} {b : Nat} {x y : Value} (h : w.heap[b]? = some (.cells #[x, y] 62 (0, 0))) : SliceIs w (.slice (some ⟨b, 0, none⟩) 1 1) 2 [x, y] :=
  .inr ⟨⟨b, 0, none⟩, 1, 1, rfl, Nat.le_refl _, by unfold maxLen; omega, rfl, fun i u hi => by
    match i, hi with
    | 0, hi => simp at hi; subst hi; simp [World.cell?, h, Addr.add]
    | 1, hi => simp at hi; subst hi; simp [World.cell?, h, Addr.add]⟩
theorem XS.put_yes {f : PFr} {x : XS} (h : frC f = 0) : x.put f = { x with net := x.net ++ [(frT f, false)] } := if_pos h
theorem XS.put_no {f : PFr} {x : XS} (h : frC f ≠ 0) : x.put f = x := if_neg h
section
variable {E : Nat → Addr} {w0 w : World} {xb : Nat} {A : XA} {x : XS}
/-- the net grown by a packet -/
theorem XAt.grow (h : XAt w0 w xb A x) {w' : World} {o : Obj} {v' : Value} {net' : List (List UInt8 × Bool)} (hg : (w.alloc o).grownBy w' A.vn.ownBlock) (hn : w'.ownsRow w0.heap.size 62 2 v' net'.length (pcells net')) :
    XAt w0 (w'.setCell ⟨xb, 3, none⟩ v') xb { A with vn := v' } { x with net := net' } := by
  have ha := h.below (wb_alloc w o)
  have hc : Chg (w.alloc o) w' (fun b => A.vn.ownBlock = some b) := ⟨hg.os, hg.tape, hg.output, hg.size, fun k hk hn => hg.block k hk (fun e => hn e.symm)⟩
  obtain ⟨es, c, hm⟩ := ha.fu.isMap
  have h1 : XCell w' xb A (.pointer (some ⟨A.fb, 0, none⟩)) (.map (some A.ub)) x := (hc.block xb (lt_of_block ha.cells) (own_ne ha.rest.nt ha.cells (by decide))).trans ha.cells
  have h2 : FlowAt w' A.fb x.W x.L x.T x.G := (hc.block A.fb ha.fl.lt (own_ne ha.rest.nt ha.fl (by decide))).trans ha.fl
  have h3 : FMapIs w' A.ub x.fu.length x.fu := ha.fu.kept (hc.block A.ub ha.fu.lt (own_ne_map ha.rest.nt hm))
  have hr := ha.rest.netAt hc hn
  have hc2 := XCell.chg w' xb 3 v'
  have hs : XCell (w'.setCell ⟨xb, 3, none⟩ v') xb { A with vn := v' } (.pointer (some ⟨A.fb, 0, none⟩)) (.map (some A.ub)) { x with net := net' } := h1.set 3 v' rfl
  obtain ⟨es2, c2, hm2⟩ := h3.isMap
  refine ⟨hs, hr.at hc2 h1 (by decide) h.lx, ?_, ?_, h.ne, h.lx, h.lf, h.lu⟩
  · exact (hc2.block A.fb h2.lt (cells_ne h2 h1 (by decide))).trans h2
  · exact h3.kept (hc2.block A.ub h3.lt (fun e => cells_map h1 hm2 e.symm))
theorem XAt.grow_cell (h : XAt w0 w xb A x) {w' : World} {o : Obj} (hg : (w.alloc o).grownBy w' A.vn.ownBlock) : w'.frozen? ⟨xb, 3, none⟩ = false ∧ w'.cell? ⟨xb, 3, none⟩ = some A.vn := by
  have ha := h.below (wb_alloc w o)
  have h1 : XCell w' xb A (.pointer (some ⟨A.fb, 0, none⟩)) (.map (some A.ub)) x := (hg.block xb (lt_of_block ha.cells) (fun e => own_ne ha.rest.nt ha.cells (by decide) e.symm)).trans ha.cells
  exact ⟨h1.fz 3, h1.cs.2.2.2.1⟩
set_option maxRecDepth 100000 in
set_option maxHeartbeats 6400000 in
theorem xput_any (f : PFr) (h : XAt w0 w xb A x) (hn : x.net.length ≤ 1000000000) (h2 : Has E w 2) (h4 : Has E w 4) :
    Calls Tryz.prog 39 #[.pointer (some ⟨xb, 0, none⟩), f.val] w fun e w' => e = .returned (.tuple #[]) ∧ ∃ A', XAt w0 w' xb A' (x.put f) := by
  obtain ⟨i0, hi, hs0, hs1, hs2⟩ := info_parts infoPk
  have B0 := Lib.hid (wb_alloc w (.cells #[.int .u8 f.k.toNat, .int .i64 f.e, .int .i64 f.q, .string (bs f.d)] 55))
  have EN := Lib.hid (fenc_any E f _ (h2.below B0.out) (h4.below B0.out))
  have HX := Lib.hid (h.below B0.out)
  rw [PFr.val_is] at EN ⊢
  by_cases hc : frC f = 0
  · rw [hc, ev_zero, encL_yes hc] at EN
    rw [XS.put_yes hc]
    clear h h2 h4 hc
    go_enter Tryz.func39, Tryz.ntmps39
    go_wp2_with fail
    refine EN.out.mono ?_
    rintro e w1 ⟨rfl, b1⟩
    have hx := HX.out.below b1
    obtain ⟨c0, c1, c2, c3, _⟩ := hx.cells.cs
    have fz := hx.cells.fz 3
    have HX1 := Lib.hid hx
    have HN1 : Hid (x.net.length + 1 ≤ maxLen) := by show _ ≤ _; unfold maxLen; omega
    have HN2 : Hid ((x.net.length + 1) * 24 ≤ 140737488355328) := by show _ ≤ _; omega
    have HS := Lib.hid hx.rest.bel.size
    have hO := hx.rest.nt
    obtain ⟨va, vc, hv⟩ := owns_slice hO
    rw [hv] at c3 hO
    have HO := Lib.hid hO
    have HV := Lib.hid hv
    clear hO hv
    clear EN HX b1 hx c0 c1 c2
    go_wp2_with (first | (at_builtin; refine wpList_append_is rfl (.tmp 17) (.tmp 20) 53 rfl w0.heap.size 62 i0 _ 2 24 Tryz.underlying53 hi hs0 hs1 hs2 rfl (by decide) _ x.net.length _ rfl (HO.out.alloc _) _ 1 [.string (bs (frT f)), .bool false] rfl (slice_onePk (heap_alloc_new _ _)) rfl (fun u hu => by simp at hu; rcases hu with rfl | rfl <;> rfl) HN1.out HN2.out (by have := HS.out; simp; omega) ?_; intro v' w5 hown5 hgrow _; have gc := HX1.out.grow_cell (by rw [HV.out]; exact hgrow); have f5 := gc.1; have k5 := gc.2; rw [HV.out] at k5; have HG5 := Lib.hid hgrow; have HO5 := Lib.hid hown5; clear gc hgrow; obtain ⟨vb, vd, rfl⟩ := owns_slice hown5; clear hown5))
    go_returns
    refine ⟨rfl, _, HX1.out.grow (net' := x.net ++ [(frT f, false)]) (by rw [HV.out]; exact HG5.out) ?_⟩
    rw [pcells_append, List.length_append]
    exact HO5.out
  · have HC := Lib.hid hc
    rw [XS.put_no hc]
    rw [ev_pos E hc] at EN
    clear h h2 h4 hc
    go_enter Tryz.func39, Tryz.ntmps39
    go_wp2_with fail
    refine EN.out.mono ?_
    rintro e w1 ⟨rfl, b1⟩
    have HX1 := Lib.hid (HX.out.below b1)
    clear EN b1
    go_wp2_with fail
    go_returns
    exact ⟨rfl, A, HX1.out⟩
end
end Go.Proofs.YtdpoalbbcmkceaaGreatDoor
/- Contract of a transfer: ask. -/
namespace Go.Proofs.YtdpoalbbcmkceaaGreatDoor
open Go.RowKit
set_option linter.unusedVariables false
section
variable {E : Nat → Addr} {w0 w : World} {xb : Nat} {A : XA} {x : XS}
theorem XAt.drew (h : XAt w0 w xb A x) : XAt w0 w.drew xb A x := h.below (Below.drew (Below.refl _ _))
/-- what is asked is laid -/
theorem XAt.asked (h : XAt w0 w xb A x) (f : PFr) : XAt w0 ((((w.setCell ⟨xb, 6, none⟩ (.int .u8 f.k.toNat)).setCell ⟨xb, 7, none⟩ (.int .i64 f.e)).setCell ⟨xb, 8, none⟩ (.int .i64 f.q)).setCell ⟨xb, 9, none⟩ (.string (bs f.d))) xb A { x with ask := f } := by
  have h1 := h.set 6 (.int .u8 f.k.toNat) (A' := A) (x' := { x with ask := { x.ask with k := f.k } }) rfl ⟨rfl, rfl, rfl⟩ ⟨rfl, rfl, rfl, rfl, rfl⟩ (fun w2 h => ⟨h.fr, h.tt, h.nt, h.ln, h.gt, h.lm, h.bel⟩)
  have h2 := h1.set 7 (.int .i64 f.e) (A' := A) (x' := { x with ask := { x.ask with k := f.k, e := f.e } }) rfl ⟨rfl, rfl, rfl⟩ ⟨rfl, rfl, rfl, rfl, rfl⟩ (fun w2 h => ⟨h.fr, h.tt, h.nt, h.ln, h.gt, h.lm, h.bel⟩)
  have h3 := h2.set 8 (.int .i64 f.q) (A' := A) (x' := { x with ask := { x.ask with k := f.k, e := f.e, q := f.q } }) rfl ⟨rfl, rfl, rfl⟩ ⟨rfl, rfl, rfl, rfl, rfl⟩ (fun w2 h => ⟨h.fr, h.tt, h.nt, h.ln, h.gt, h.lm, h.bel⟩)
  exact h3.set 9 (.string (bs f.d)) (A' := A) (x' := { x with ask := f }) rfl ⟨rfl, rfl, rfl⟩ ⟨rfl, rfl, rfl, rfl, rfl⟩ (fun w2 h => ⟨h.fr, h.tt, h.nt, h.ln, h.gt, h.lm, h.bel⟩)
set_option maxRecDepth 100000 in
set_option maxHeartbeats 6400000 in
theorem xask_any (k : UInt8) (d : List UInt8) (h : XAt w0 w xb A x) (hn : x.net.length ≤ 1000000000) (hq : x.sq < 65536) (h2 : Has E w0 2) (h4 : Has E w0 4) :
    Calls Tryz.prog 52 #[.pointer (some ⟨xb, 0, none⟩), .int .u8 k.toNat, .string (bs d)] w fun e w' => e = .returned (.tuple #[]) ∧ ∃ A', XAt w0 w' xb A' (x.asks k d) := by
  have HX := Lib.hid h
  obtain ⟨c0, c1, c2, c3, c4, c5, c6, c7, c8, c9, c10, c11, c12, c13, c14, c15⟩ := h.cells.cs
  have f6 := h.cells.fz 6
  have f7 := h.cells.fz 7
  have f8 := h.cells.fz 8
  have f9 := h.cells.fz 9
  have k6 : (w.cell? ⟨xb, 6, none⟩).isSome = true := by rw [c6]; rfl
  clear h c0 c1 c2 c3 c10 c11 c12 c13 c14 c15 k6
  go_enter Tryz.func52, Tryz.ntmps52
  go_wp2_with fail
  have X1 := (HX.out.asked ⟨k, x.ep, x.sq, d⟩).drew
  have S1 := And.intro X1.cells.cs.2.2.2.2.1 X1.cells.cs.2.2.2.2.2.1
  go_region_held3 (fun X => X.cell? ⟨xb, 4, none⟩ = some (.int .i64 x.ep) ∧ X.cell? ⟨xb, 5, none⟩ = some (.int .i64 x.sq)) (first | exact ⟨c4, c5⟩ | exact S1) (fail)
  clear S1
  generalize (((((w.setCell ⟨xb, 6, none⟩ (.int .u8 k.toNat)).setCell ⟨xb, 7, none⟩ (.int .i64 x.ep)).setCell ⟨xb, 8, none⟩ (.int .i64 x.sq)).setCell ⟨xb, 9, none⟩ (.string (bs d))).drew) = w1 at *
  have HX1 := Lib.hid X1
  clear c4 c5 c6 c7 c8 c9 f6 f7 f8 f9 X1
  obtain ⟨c0, c1, c2, c3, c4, c5, c6, c7, c8, c9, c10, c11, c12, c13, c14, c15⟩ := HX1.out.cells.cs
  have f5 := HX1.out.cells.fz 5
  have f10 := HX1.out.cells.fz 10
  have hw1 : IntKind.i64.wrap ((x.sq : Int) + 1) = (x.sq : Int) + 1 := IntWalk.i64_in _ (by omega)
  obtain ⟨m, hm⟩ : ∃ m : Nat, m = (x.sq + 1) % 65536 := ⟨_, rfl⟩
  have hm0 : (m : Int) < 65536 := by omega
  have hw3 : ((x.sq : Int) + 1) % 65536 = (m : Int) := by omega
  have hw4 : ((x.sq : Int) + 1).tmod 65536 = (m : Int) := by rw [Int.tmod_eq_emod_of_nonneg (by omega)]; exact hw3
  have hw5 : IntKind.i64.wrap (((x.sq : Int) + 1).tmod 65536) = (m : Int) := by rw [hw4]; exact IntWalk.i64_in _ (by omega)
  have HM := Lib.hid hm
  clear hm
  clear c0 c1 c2 c3 c11 c12 c13 c14 c15
  have X2 := HX1.out.set 5 (.int .i64 m) (A' := A) (x' := { x with ask := ⟨k, x.ep, x.sq, d⟩, sq := m }) rfl ⟨rfl, rfl, rfl⟩ ⟨rfl, rfl, rfl, rfl, rfl⟩ (fun w2 h => ⟨h.fr, h.tt, h.nt, h.ln, h.gt, h.lm, h.bel⟩)
  have X3 := X2.set 10 (.int .i64 (0 : Nat)) (A' := A) (x' := { x with ask := ⟨k, x.ep, x.sq, d⟩, sq := m, age := 0 }) rfl ⟨rfl, rfl, rfl⟩ ⟨rfl, rfl, rfl, rfl, rfl⟩ (fun w2 h => ⟨h.fr, h.tt, h.nt, h.ln, h.gt, h.lm, h.bel⟩)
  have PT := Lib.hid (xput_any (E := E) ⟨k, x.ep, x.sq, d⟩ X3 hn (h2.below X3.rest.bel) (h4.below X3.rest.bel))
  have HE : Hid (x.asks k d = XS.put ⟨k, x.ep, x.sq, d⟩ { x with ask := ⟨k, x.ep, x.sq, d⟩, sq := m, age := 0 }) := Lib.hid (by rw [HM.out]; rfl)
  rw [PFr.val_is] at PT
  clear X2 X3 HX HX1
  go_wp2_with fail
  refine PT.out.mono ?_
  rintro e w2 ⟨rfl, A', hA⟩
  have HA := Lib.hid hA
  clear hA PT
  go_wp2_with fail
  go_returns
  exact ⟨rfl, A', by rw [HE.out]; exact HA.out⟩
end
end Go.Proofs.YtdpoalbbcmkceaaGreatDoor
/- Contract of a transfer: want. -/
namespace Go.Proofs.YtdpoalbbcmkceaaGreatDoor
open Go.RowKit
set_option linter.unusedVariables false

theorem XS.want_is (x : XS) (n : List UInt8) {o s : List UInt8} {z : Nat} (h : x.old n = o) (hz : sizeN o.length = z) (hs : sText (blks z o) z = s) : x.want n = x.asks 103 (XS.two n s) := by
  subst h hz hs; rfl
theorem sText_len (l : List Blk) (z : Nat) (hz : z ≤ 64) (hl : l.length ≤ 4000) : (sText l z).length ≤ 14 + 21 * l.length := by
  rw [sText_is, List.length_append, List.length_append]
  have h1 := num_len z
  have h2 := num_len l.length
  have h3 := bText_len l
  simp only [Int.toNat_natCast]
  omega
theorem blks_few (o : List UInt8) (ho : o.length ≤ 4000) : (blks (sizeN o.length) o).length ≤ 64 := by
  rw [blks_len]
  unfold cntOf sizeN
  (repeat' split) <;> omega
section
variable {E : Nat → Addr} {w0 w : World} {xb : Nat} {A : XA} {x : XS}
set_option maxRecDepth 100000 in
set_option maxHeartbeats 12800000 in
theorem xwant_any (n : List UInt8) (h : XAt w0 w xb A x) (hn : x.net.length ≤ 1000000000) (hq : x.sq < 65536) (hold : (x.old n).length ≤ 4000) (hnm : n.length ≤ 1000) (h2 : Has E w0 2) (h4 : Has E w0 4) (h8 : Has E w0 8) :
    Calls Tryz.prog 54 #[.pointer (some ⟨xb, 0, none⟩), .string (bs n)] w fun e w' => e = .returned (.tuple #[]) ∧ ∃ A', XAt w0 w' xb A' (x.want n) := by
  obtain ⟨o, ho⟩ : ∃ o, x.old n = o := ⟨_, rfl⟩
  obtain ⟨z, hz⟩ : ∃ z, sizeN (o.length : Int) = z := ⟨_, rfl⟩
  obtain ⟨s, hs⟩ : ∃ s, sText (blks z o) z = s := ⟨_, rfl⟩
  rw [XS.want_is x n ho hz hs]
  rw [ho] at hold
  have hz4 : 1 ≤ z ∧ z ≤ 64 := by rcases sizeN_is (o.length : Int) with h | h | h | h | h <;> omega
  have hck := blks_chk z o hz4.1 hz4.2 hold
  have hfew := blks_few o hold
  rw [hz] at hfew
  have hsl : s.length ≤ 2000 := by rw [← hs]; have := sText_len (blks z o) z hz4.2 (by omega); omega
  have hbS := blks_S z o
  have hold2 : x.old n = if x.fu.contains n then [] else (fgetL x.tt n).getD [] := rfl
  rw [ho] at hold2
  have HB2 := Lib.hid (fun (w' : World) (b : Below w.heap.size w w') => h2.below (below_trans' h.rest.bel b))
  have HB4 := Lib.hid (fun (w' : World) (b : Below w.heap.size w w') => h4.below (below_trans' h.rest.bel b))
  have HB8 := Lib.hid (fun (w' : World) (b : Below w.heap.size w w') => h8.below (below_trans' h.rest.bel b))
  have HX := Lib.hid h
  have GE := Lib.hid (flget_any x.tt A.vt n w (SliceIs.ownedK h.rest.tt))
  have LK := Lib.hid (fun (w' : World) (b : Below w.heap.size w w') => (h.below b).fu.look (k := n) (by unfold maxLen; omega))
  have CS := Lib.hid (fun (w' : World) (b : Below w.heap.size w w') => (h.below b).cells.cs)
  obtain ⟨c0, c1, _⟩ := h.cells.cs
  have SZ := Lib.hid (fun w' => size_any (o.length : Int) w')
  rw [hz] at SZ
  have OF := Lib.hid (fun w' => of_yes (bs o) z w' (by rw [bs_size]; exact hold) hz4.1 hz4.2)
  rw [bs_list] at OF
  have ST := Lib.hid (fun (w' : World) (b : Below w.heap.size w w') (s0 : Option Addr) (n0 c0 : Nat) (hl : SliceIs w' (.slice s0 n0 c0) 3 (bcells (blks z o))) => stext_yes E s0 n0 c0 (blks z o) z w' hl hbS (HB2.out w' b) (HB8.out w' b) (by rw [hck]))
  rw [hs] at ST
  have AK := Lib.hid (fun (w' : World) (b : Below w.heap.size w w') => xask_any (E := E) 103 (XS.two n s) (HX.out.below b) hn hq h2 h4)
  have htw : XS.two n s = num n.length ++ (n ++ (num s.length ++ s)) := by unfold XS.two; rw [List.append_assoc]
  obtain ⟨r, hr⟩ : ∃ r, x.asks 103 (XS.two n s) = r := ⟨_, rfl⟩
  rw [hr] at AK ⊢
  rw [htw, show (((103 : UInt8).toNat : Nat) : Int) = 103 from rfl] at AK
  clear hr htw
  have hoz : (bs o).size = o.length := bs_size o
  have hob : x.fu.contains n = true ∧ bs o = ⟨#[]⟩ ∨ x.fu.contains n = false ∧ bs o = bs ((fgetL x.tt n).getD []) := by
    cases hc : x.fu.contains n with
    | true => rw [hc, if_pos rfl] at hold2; exact .inl ⟨rfl, by rw [hold2, bs_nil]⟩
    | false => rw [hc, if_neg (by simp)] at hold2; exact .inr ⟨rfl, by rw [hold2]⟩
  clear h h2 h4 h8 ho hs hz hold2 hck hbS c0
  generalize bs o = ob at *
  generalize bs ((fgetL x.tt n).getD []) = gb at *
  generalize (fgetL x.tt n).isSome = gi at *
  generalize x.fu.contains n = fc at *
  rcases hob with ⟨rfl, rfl⟩ | ⟨rfl, rfl⟩
  all_goals
    go_enter Tryz.func54, Tryz.ntmps54
    go_wp2_with fail
    refine GE.out.mono ?_
    rintro e w1 ⟨rfl, b1⟩
    have cs := CS.out _ b1
    have lk := LK.out _ b1
    have c14 := cs.2.2.2.2.2.2.2.2.2.2.2.2.2.2.1
    clear c1 cs GE LK
    go_wp2_with fail
    refine (SZ.out _).mono ?_
    rintro e w1' ⟨rfl, rfl⟩
    clear lk c14
    go_wp2_with fail
    refine (OF.out _).mono ?_
    rintro e w2 ⟨v2, rfl, own2, b2⟩
    have B2 := Lib.hid (below_trans' b1 b2)
    obtain ⟨va, vc, rfl⟩ := owns_slice own2
    have ST2 := Lib.hid (ST.out _ B2.out _ _ _ (SliceIs.ownedK own2))
    clear b1 b2 own2 OF ST SZ CS
    go_wp2_with fail
    refine ST2.out.mono ?_
    rintro e w3 ⟨rfl, b3⟩
    have B3 := Lib.hid (below_trans' B2.out b3)
    clear b3 ST2 B2
    go_wp2_with fail
    have W0 := WAt.new E w3
    have B4 := Lib.hid (below_trans' B3.out (wb_alloc w3 (.cells #[.slice none 0 0, .nilIface] 128)))
    have hl4 : w3.heap.size < (w3.alloc (.cells #[.slice none 0 0, .nilIface] 128)).heap.size := by simp
    have hw3 : w.heap.size ≤ w3.heap.size := B3.out.size
    generalize w3.alloc (.cells #[.slice none 0 0, .nilIface] 128) = w4 at *
    generalize w3.heap.size = wb at *
    refine (wtext_ok E wb [] (bs n) w4 (by simp) W0 (HB2.out _ B4.out) (by rw [bs_size]; omega)).mono ?_
    rintro e w5 ⟨rfl, W5, k5⟩
    have B5 := Lib.hid (k5.old B4.out hw3 hl4)
    rw [bs_size, bs_list, List.nil_append] at W5
    clear W0 k5 B4 hl4
    go_wp2_with fail
    refine (wtext_ok E wb _ (bs s) w5 (by rw [List.length_append]; have := num_len n.length; omega) W5 (HB2.out _ B5.out) (by rw [bs_size]; omega)).mono ?_
    rintro e w6 ⟨rfl, W6, k6⟩
    have B6 := Lib.hid (k6.old B5.out hw3 W5.lt)
    rw [bs_size, bs_list] at W6
    clear W5 k6 B5
    go_wp2_with fail
    refine (wdone_any E wb _ 0 w6 (fun _ => by rw [List.length_append, List.length_append]; have := num_pos n.length; omega) W6).mono ?_
    rintro e w7 ⟨rfl, d7⟩
    rw [doneL_zero, ev_zero]
    have AK7 := Lib.hid (AK.out _ (below_trans' B6.out (d7.below _)))
    clear W6 d7 AK B6
    go_wp2_with fail
    refine AK7.out.mono ?_
    rintro e w8 ⟨rfl, A', hA⟩
    have HA := Lib.hid hA
    clear hA AK7
    go_wp2_with fail
    go_returns
    exact ⟨rfl, A', HA.out⟩
end
end Go.Proofs.YtdpoalbbcmkceaaGreatDoor
/- Contract of a transfer: next. -/
namespace Go.Proofs.YtdpoalbbcmkceaaGreatDoor
open Go.RowKit
set_option linter.unusedVariables false

theorem find_hit {L : List PS} {j : Nat} (hj : j < L.length) (hno : ∀ i (hi : i < j), (L[i]'(by omega)).k ≠ kSend) (hk : (L[j]'hj).k = kSend) : L.find? (fun s => s.k == kSend) = some (L[j]'hj) := by
  rw [List.find?_eq_some_iff_getElem]
  exact ⟨by simpa using hk, j, hj, rfl, fun i hi => by simpa using hno i hi⟩
theorem find_miss {L : List PS} (hno : ∀ i (hi : i < L.length), (L[i]'hi).k ≠ kSend) : L.find? (fun s => s.k == kSend) = none := by
  rw [List.find?_eq_none]
  intro s hs
  obtain ⟨i, hi, rfl⟩ := List.mem_iff_getElem.1 hs
  simpa using hno i hi
theorem XS.next_ask {x : XS} (h : x.kn = false) : x.next = x.asks 108 [] := by unfold XS.next; rw [if_pos h]
theorem XS.next_want {x : XS} {p : List PS} (hp : planL x.ln (x.tt.map PF.line) = p) (h : x.kn = true) {j : Nat} (hj : j < p.length) (hno : ∀ i (hi : i < j), (p[i]'(by omega)).k ≠ kSend) (hk : (p[j]'hj).k = kSend) : x.next = x.want (p[j]'hj).n := by
  unfold XS.next
  rw [if_neg (by rw [h]; simp), hp, find_hit hj hno hk]
theorem XS.next_done {x : XS} {p : List PS} (hp : planL x.ln (x.tt.map PF.line) = p) (h : x.kn = true) (hno : ∀ i (hi : i < p.length), (p[i]'hi).k ≠ kSend) : x.next = { x with tt := dropsTo p x.tt, dn := true, ask := zfr } := by
  unfold XS.next
  rw [if_neg (by rw [h]; simp), hp, find_miss hno]
theorem FWF.okx {l : List PF} (h : FWF l) : FOk l := fun f hf => by
  have h1 := h.each f hf
  have h2 := (nameB_iff _).1 h1.1
  unfold maxLen
  exact ⟨by omega, by omega⟩
theorem plan_fine {a t : List PL} (ha : LWF a) (ht : LWF t) {s : PS} (hs : s ∈ planL a t) : s.n.length ≤ 12 ∧ (s.k = kSend ∨ s.k = kKeep ∨ s.k = kDrop) := by
  have P := planL_law ha.sorted ht.sorted
  refine ⟨?_, ?_⟩
  · rcases P.names s hs with ⟨x, hx, e⟩ | ⟨x, hx, e⟩
    · rw [← e]; exact ((nameB_iff _).1 (ha.each x hx).1).2.1
    · rw [← e]; exact ((nameB_iff _).1 (ht.each x hx).1).2.1
  · rcases P.of s hs with h | h | h
    · exact .inl h.1
    · exact .inr (.inl h.1)
    · exact .inr (.inr h.1)
section
variable {E : Nat → Addr} {w0 w : World} {xb : Nat} {A : XA} {x : XS}
/-- the destination's files change -/
theorem XAt.setTo (h : XAt w0 w xb A x) {b : Nat} {r : Value} {l : List PF} (hr : w.ownsRow b 49 2 r l.length (fcells l)) (hb : w0.heap.size ≤ b) : XAt w0 (w.setCell ⟨xb, 1, none⟩ r) xb { A with vt := r } { x with tt := l } := by
  have hc := XCell.chg w xb 1 r
  have hq := h.rest.xset h.cells h.lx 1 r
  obtain ⟨es, c, hm⟩ := h.fu.isMap
  refine ⟨h.cells.set 1 r rfl, ⟨hq.fr, own_other (owns_mono' hr hb) hc (fun z hz e => own_ne hr h.cells (by decide) (by rw [hz, e])), hq.nt, hq.ln, hq.gt, hq.lm, hq.bel⟩, ?_, ?_, h.ne, h.lx, h.lf, h.lu⟩
  · exact (hc.block A.fb h.fl.lt (cells_ne h.fl h.cells (by decide))).trans h.fl
  · exact h.fu.kept (hc.block A.ub h.fu.lt (fun e => cells_map h.cells hm e.symm))
/-- it is done -/
theorem XAt.isDone (h : XAt w0 w xb A x) : XAt w0 (((((w.setCell ⟨xb, 15, none⟩ (.bool true)).setCell ⟨xb, 6, none⟩ (.int .u8 0)).setCell ⟨xb, 7, none⟩ (.int .i64 0)).setCell ⟨xb, 8, none⟩ (.int .i64 0)).setCell ⟨xb, 9, none⟩ (.string ⟨#[]⟩)) xb A { x with dn := true, ask := zfr } := by
  have h1 := h.set 15 (.bool true) (A' := A) (x' := { x with dn := true }) rfl ⟨rfl, rfl, rfl⟩ ⟨rfl, rfl, rfl, rfl, rfl⟩ (fun w2 h => ⟨h.fr, h.tt, h.nt, h.ln, h.gt, h.lm, h.bel⟩)
  have h2 := h1.asked zfr
  rw [show bs zfr.d = ⟨#[]⟩ from bs_nil, show ((zfr.k.toNat : Nat) : Int) = 0 from rfl, show zfr.e = 0 from rfl, show zfr.q = 0 from rfl] at h2
  exact h2
set_option maxRecDepth 100000 in
set_option maxHeartbeats 6400000 in
theorem xnext_ask (h : XAt w0 w xb A x) (hkn : x.kn = false) (hn : x.net.length ≤ 1000000000) (hq : x.sq < 65536) (h2 : Has E w0 2) (h4 : Has E w0 4) :
    Calls Tryz.prog 36 #[.pointer (some ⟨xb, 0, none⟩)] w fun e w' => e = .returned (.tuple #[]) ∧ ∃ A', XAt w0 w' xb A' x.next := by
  rw [XS.next_ask hkn]
  have c13 := h.cells.cs.2.2.2.2.2.2.2.2.2.2.2.2.2.1
  rw [hkn] at c13
  have AK := Lib.hid (xask_any (E := E) 108 [] h hn hq h2 h4)
  rw [bs_nil, show (((108 : UInt8).toNat : Nat) : Int) = 108 from rfl] at AK
  obtain ⟨r, hr⟩ : ∃ r, x.asks 108 [] = r := ⟨_, rfl⟩
  rw [hr] at AK ⊢
  clear h hkn hn hq h2 h4 hr
  go_enter Tryz.func36, Tryz.ntmps36
  go_wp2_with fail
  refine AK.out.mono ?_
  rintro e w8 ⟨rfl, A', hA⟩
  have HA := Lib.hid hA
  clear hA AK c13
  go_wp2_with fail
  go_returns
  exact ⟨rfl, A', HA.out⟩
set_option maxRecDepth 100000 in
set_option maxHeartbeats 12800000 in
theorem xnext_plan (h : XAt w0 w xb A x) (hkn : x.kn = true) (hn : x.net.length ≤ 1000000000) (hq : x.sq < 65536) (hold : ∀ n, (x.old n).length ≤ 4000) (hln : LWF x.ln) (htt : FWF x.tt) (h2 : Has E w0 2) (h4 : Has E w0 4) (h5 : Has E w0 5) (h8 : Has E w0 8) (h9 : Has E w0 9) :
    Calls Tryz.prog 36 #[.pointer (some ⟨xb, 0, none⟩)] w fun e w' => e = .returned (.tuple #[]) ∧ ∃ A', XAt w0 w' xb A' x.next := by
  have HS := Lib.hid (fun (c : Nat) (w' : World) (b : Below w.heap.size w w') (hh : Has E w0 c) => hh.below (below_trans' h.rest.bel b))
  have HX := Lib.hid h
  have hxb := lt_of_block h.cells
  have c1 := h.cells.cs.2.1
  have c12 := h.cells.cs.2.2.2.2.2.2.2.2.2.2.2.2.1
  have c13 := h.cells.cs.2.2.2.2.2.2.2.2.2.2.2.2.2.1
  rw [hkn] at c13
  have LI := Lib.hid (fllist_yes E x.tt A.vt w (SliceIs.ownedK h.rest.tt) htt.okx (HS.out 2 w (Below.refl _ _) h2) (HS.out 5 w (Below.refl _ _) h5) (HS.out 8 w (Below.refl _ _) h8) (HS.out 9 w (Below.refl _ _) h9) htt)
  have C12 := Lib.hid (fun (w' : World) (b : Below w.heap.size w w') => (h.below b).cells.cs.2.2.2.2.2.2.2.2.2.2.2.2.1)
  have PL := Lib.hid (fun (w' : World) (b : Below w.heap.size w w') (v : Value) (hv : SliceIs w' v 3 (lcells (x.tt.map PF.line))) => flplan_yes E x.ln (x.tt.map PF.line) A.vl v w' ((SliceIs.ownedK h.rest.ln).below b) hv hln htt.lines (HS.out 2 w' b h2) (HS.out 5 w' b h5) (HS.out 8 w' b h8) (HS.out 9 w' b h9))
  have PFI := Lib.hid (fun s hs => plan_fine hln htt.lines (s := s) hs)
  have WN := Lib.hid (fun (w' : World) (b : Below w.heap.size w w') (n : List UInt8) (hnm : n.length ≤ 1000) => xwant_any (E := E) n (h.below b) hn hq (hold n) hnm h2 h4 h8)
  have hpl := planL_le x.ln (x.tt.map PF.line)
  have hl1 := hln.few
  have hl2 := htt.few
  have NW := Lib.hid (fun p hp j hj hno hk => XS.next_want (x := x) (p := p) hp hkn (j := j) hj hno hk)
  have ND := Lib.hid (fun p hp hno => XS.next_done (x := x) (p := p) hp hkn hno)
  rw [List.length_map] at hpl
  obtain ⟨p, hp⟩ : ∃ p, planL x.ln (x.tt.map PF.line) = p := ⟨_, rfl⟩
  rw [hp] at hpl PFI
  rw [hp] at PL
  have NW := Lib.hid (fun j hj hno hk => NW.out p hp j hj hno hk)
  have ND := Lib.hid (ND.out p hp)
  have hpm : p.length ≤ 40 := by omega
  obtain ⟨xn, hxn⟩ : ∃ xn, x.next = xn := ⟨_, rfl⟩
  rw [hxn] at NW ND ⊢
  clear hxn
  have TW := Lib.hid (show ∀ k, FWF (dropsTo (p.take k) x.tt) from fun k => htt.drops _)
  clear h h2 h4 h5 h8 h9 hkn hln htt hl1 hl2 hpl hp hn hq hold HS
  go_enter Tryz.func36, Tryz.ntmps36
  go_wp2_with fail
  refine LI.out.mono ?_
  rintro e w1 ⟨r1, rfl, o1, b1⟩
  have c12 := C12.out _ b1
  have S1 := Lib.hid (SliceIs.ownedK o1)
  have B1 := Lib.hid b1
  have PL1 := Lib.hid (PL.out _ b1 _ S1.out)
  clear LI PL c1 c13 o1 b1
  go_wp2_with fail
  refine PL1.out.mono ?_
  rintro e w2 ⟨r2, rfl, o2, b2⟩
  have B2 := Lib.hid (below_trans' B1.out b2)
  have hx1 : xb < w1.heap.size := Nat.lt_of_lt_of_le hxb B1.out.size
  have O2 := Lib.hid o2
  obtain ⟨va, vc, rfl⟩ := owns_slice o2
  clear c12 o2 b2 PL1 S1 B1 C12
  go_wp2_with fail
  go_loopw [39, 6] (fun i _ wr => ∃ k : Nat, i = .int .i64 k ∧ k ≤ p.length ∧ (∀ i (hi : i < k) (hp : i < p.length), (p[i]'hp).k ≠ kSend) ∧ Below w2.heap.size w2 wr) (fun i _ _ => p.length - (intOf i).toNat)
  case atStart => exact ⟨0, rfl, by omega, fun i hi => by omega, Below.refl _ _⟩
  case round =>
    obtain ⟨k, rfl, hk, hno, bel⟩ := hrel
    by_cases hlt : k < p.length
    · have hltI : (k : Int) < p.length := by omega
      have SP := Lib.hid (SliceIs.ownedK (owns_below O2.out bel))
      obtain ⟨s', n', c', qe, _, _, _, g1⟩ := SP.out.get
      cases qe
      obtain ⟨ad, rfl, dx⟩ := g1 _ _ (scells_get p k hlt).1
      clear dx g1
      obtain ⟨d0, d1⟩ := step_cells SP.out hlt
      obtain ⟨hn12, hB⟩ := PFI.out _ (List.getElem_mem hlt)
      have y1 : (0 : Int) ≤ k := by omega
      have y2 : (k : Int).toNat = k := by omega
      have KK := Lib.hid (show k + 1 ≤ p.length from hlt)
      have BW := Lib.hid bel
      have NWk := Lib.hid (fun hk2 => NW.out k hlt (fun i hi => hno i hi (by omega)) hk2)
      have NO := Lib.hid (fun (h3 : (p[k]'hlt).k ≠ kSend) => show ∀ i (hi : i < k + 1) (hp : i < p.length), (p[i]'hp).k ≠ kSend from fun i hi hp => by
        by_cases e : i = k
        · subst e; exact h3
        · exact hno i (by omega) hp)
      generalize p[k]'hlt = s at d0 d1 hB hn12 NWk NO
      obtain ⟨K, n⟩ := s
      simp only [] at d0 d1 hB hn12 NWk NO
      clear bel hno SP
      rcases hB with rfl | rfl | rfl
      · rw [bs_kSend] at d0
        have WN1 := Lib.hid (fun (o : Obj) => WN.out _ (below_trans' B2.out (BW.out.alloc BW.out.size o)) n (by omega))
        have NX := Lib.hid (NWk.out rfl)
        clear NWk NO NW ND PFI
        rw [← NX.out] at WN1
        clear NX
        go_wp2_with fail
        refine (WN1.out _).mono ?_
        rintro e w8 ⟨rfl, A', hA⟩
        have HA := Lib.hid hA
        clear hA WN1
        go_wp2_with fail
        go_returns
        exact ⟨rfl, A', HA.out⟩
      · rw [bs_kKeep] at d0
        have NN := Lib.hid (NO.out (by decide))
        clear NWk NO
        go_wp2_with fail
        go_roundw
        case rel => exact ⟨k + 1, by go_num, KK.out, NN.out, BW.out.alloc BW.out.size _⟩
        case measure => simp [intOf]; omega
      · rw [bs_kDrop] at d0
        have NN := Lib.hid (NO.out (by decide))
        clear NWk NO
        go_wp2_with fail
        go_roundw
        case rel => exact ⟨k + 1, by go_num, KK.out, NN.out, BW.out.alloc BW.out.size _⟩
        case measure => simp [intOf]; omega
    · have hltI : ¬ (k : Int) < p.length := by omega
      have NX := Lib.hid (ND.out (fun i hi => hno i (by omega) hi))
      have BW := Lib.hid bel
      have SW := Lib.hid (owns_below O2.out bel)
      have XW := Lib.hid (HX.out.below (below_trans' B2.out bel))
      clear bel hno NW ND WN O2 HX B2
      go_wp2_with fail
      go_loopw [53, 8] (fun i _ wr => ∃ (k : Nat) (A1 : XA), i = .int .i64 k ∧ k ≤ p.length ∧ XAt w0 wr xb A1 { x with tt := dropsTo (p.take k) x.tt } ∧ wr.ownsRow w1.heap.size 106 2 (.slice va p.length vc) p.length (scells p)) (fun i _ _ => p.length - (intOf i).toNat)
      case atStart => exact ⟨0, A, rfl, by omega, XW.out, SW.out⟩
      case round =>
        clear SW XW BW
        obtain ⟨k, A1, rfl, hk, xat, own⟩ := hrel
        by_cases hlt : k < p.length
        · have hltI : (k : Int) < p.length := by omega
          have SP := Lib.hid (SliceIs.ownedK own)
          obtain ⟨s', n', c', qe, _, _, _, g1⟩ := SP.out.get
          cases qe
          obtain ⟨ad, rfl, dx⟩ := g1 _ _ (scells_get p k hlt).1
          clear dx g1
          obtain ⟨d0, d1⟩ := step_cells SP.out hlt
          obtain ⟨hn12, hB⟩ := PFI.out _ (List.getElem_mem hlt)
          have y1 : (0 : Int) ≤ k := by omega
          have y2 : (k : Int).toNat = k := by omega
          have KK := Lib.hid (show k + 1 ≤ p.length from hlt)
          have HIT := Lib.hid (fun e => dropsTo_hit hlt e x.tt)
          have MISS := Lib.hid (fun e => dropsTo_miss hlt e x.tt)
          have WF := Lib.hid (TW.out k)
          generalize p[k]'hlt = s at d0 d1 hB hn12 HIT MISS
          obtain ⟨K, n⟩ := s
          simp only [] at d0 d1 hB hn12 HIT MISS
          generalize dropsTo (p.take k) x.tt = L at *
          have XW := Lib.hid xat
          have OW := Lib.hid own
          clear xat own SP
          rcases hB with rfl | rfl | rfl
          · have Y := Lib.hid (MISS.out (by decide))
            rw [bs_kSend] at d0
            clear HIT MISS
            go_wp2_with fail
            go_roundw
            case rel => exact ⟨k + 1, A1, by go_num, KK.out, by rw [Y.out]; exact XW.out.below (Below.alloc (Below.refl _ _) (Nat.le_refl _) _), OW.out.alloc _⟩
            case measure => simp [intOf]; omega
          · have Y := Lib.hid (MISS.out (by decide))
            rw [bs_kKeep] at d0
            clear HIT MISS
            go_wp2_with fail
            go_roundw
            case rel => exact ⟨k + 1, A1, by go_num, KK.out, by rw [Y.out]; exact XW.out.below (Below.alloc (Below.refl _ _) (Nat.le_refl _) _), OW.out.alloc _⟩
            case measure => simp [intOf]; omega
          · have Y := Lib.hid (HIT.out rfl)
            rw [bs_kDrop] at d0
            clear HIT MISS
            have XA1 := Lib.hid (XW.out.below (Below.alloc (Below.refl _ _) (Nat.le_refl _) (.cells #[.string ⟨#[100, 114, 111, 112]⟩, .string (bs n)] 106)))
            have OW1 := Lib.hid (OW.out.alloc (.cells #[.string ⟨#[100, 114, 111, 112]⟩, .string (bs n)] 106))
            have q1 : (wr.alloc (.cells #[.string ⟨#[100, 114, 111, 112]⟩, .string (bs n)] 106)).cell? ⟨wr.heap.size, 1, none⟩ = some (.string (bs n)) := by simp
            clear XW OW
            go_wp2_with fail
            generalize wr.alloc (.cells #[.string ⟨#[100, 114, 111, 112]⟩, .string (bs n)] 106) = W1 at *
            clear d0 d1
            have c1 := XA1.out.cells.cs.2.1
            have hfew := WF.out.few
            have DR := Lib.hid (fun (w' : World) (b : Below W1.heap.size W1 w') => fldrop_any L A1.vt n w' ((SliceIs.ownedK XA1.out.rest.tt).below b) (by omega))
            have HSZ := Lib.hid (XA1.out.rest.bel.size)
            go_region_law (go_simp; go_at_call 55; refine (DR.out _ (by first | exact Below.refl _ _ | exact Below.drew (Below.refl _ _))).mono ?_; rintro e w8 ⟨r8, rfl, o8, b8⟩; have X8 := Lib.hid (XA1.out.drew.below b8); have cx8 := X8.out.cells.cs.2.1; have fx8 := X8.out.cells.fz 1; have O8 := Lib.hid o8; have B8 := Lib.hid b8; obtain ⟨va8, vc8, rfl⟩ := owns_slice o8)
            all_goals
              have RX := Lib.hid (XAt.setTo X8.out O8.out (by have := HSZ.out; simp; omega))
              have RO := Lib.hid (own_other (owns_below (owns_below OW1.out (Below.drew (Below.refl _ _))) B8.out) (XCell.chg w8 xb 1 (.slice va8 (dropL L n).length vc8)) (fun z hz e => by have := own_base OW1.out hz; omega))
              clear O8 B8 X8 OW1 XA1 DR cx8 fx8
              go_wp2_with fail
              go_roundw
              case rel => exact ⟨k + 1, _, by go_num, KK.out, by rw [Y.out]; exact RX.out, RO.out⟩
              case measure => simp [intOf]; omega
        · have hltI : ¬ (k : Int) < p.length := by omega
          rw [List.take_of_length_le (by omega)] at xat
          have XD := Lib.hid xat.isDone
          have f6 := xat.cells.fz 6
          have f7 := xat.cells.fz 7
          have f8 := xat.cells.fz 8
          have f9 := xat.cells.fz 9
          have f15 := xat.cells.fz 15
          obtain ⟨c0, c1, c2, c3, c4, c5, c6, c7, c8, c9, c10, c11, c12, c13, c14, c15⟩ := xat.cells.cs
          clear xat own c0 c1 c2 c3 c4 c5 c10 c11 c12 c13 c14
          go_wp2_with fail
          go_returns
          exact ⟨rfl, A1, by rw [NX.out]; exact XD.out⟩
theorem xnext_any (h : XAt w0 w xb A x) (hn : x.net.length ≤ 1000000000) (hq : x.sq < 65536) (hold : ∀ n, (x.old n).length ≤ 4000) (hln : LWF x.ln) (htt : FWF x.tt) (h2 : Has E w0 2) (h4 : Has E w0 4) (h5 : Has E w0 5) (h8 : Has E w0 8) (h9 : Has E w0 9) :
    Calls Tryz.prog 36 #[.pointer (some ⟨xb, 0, none⟩)] w fun e w' => e = .returned (.tuple #[]) ∧ ∃ A', XAt w0 w' xb A' x.next := by
  cases hkn : x.kn with
  | false => exact xnext_ask h hkn hn hq h2 h4
  | true => exact xnext_plan h hkn hn hq hold hln htt h2 h4 h5 h8 h9
end
end Go.Proofs.YtdpoalbbcmkceaaGreatDoor
/- Contracts of a transfer: listed, tick. -/
namespace Go.Proofs.YtdpoalbbcmkceaaGreatDoor
open Go.RowKit
set_option linter.unusedVariables false
section
variable {E : Nat → Addr} {w0 w : World} {xb : Nat} {A : XA} {x : XS}
/-- the lines change -/
theorem XAt.setLn (h : XAt w0 w xb A x) {b : Nat} {r : Value} {l : List PL} (hr : w.ownsRow b 39 3 r l.length (lcells l)) (hb : w0.heap.size ≤ b) : XAt w0 (w.setCell ⟨xb, 12, none⟩ r) xb { A with vl := r } { x with ln := l } := by
  have hc := XCell.chg w xb 12 r
  have hq := h.rest.xset h.cells h.lx 12 r
  obtain ⟨es, c, hm⟩ := h.fu.isMap
  refine ⟨h.cells.set 12 r rfl, ⟨hq.fr, hq.tt, hq.nt, own_other (owns_mono' hr hb) hc (fun z hz e => own_ne hr h.cells (by decide) (by rw [hz, e])), hq.gt, hq.lm, hq.bel⟩, ?_, ?_, h.ne, h.lx, h.lf, h.lu⟩
  · exact (hc.block A.fb h.fl.lt (cells_ne h.fl h.cells (by decide))).trans h.fl
  · exact h.fu.kept (hc.block A.ub h.fu.lt (fun e => cells_map h.cells hm e.symm))
theorem XAt.setKn (h : XAt w0 w xb A x) (b : Bool) : XAt w0 (w.setCell ⟨xb, 13, none⟩ (.bool b)) xb A { x with kn := b } :=
  h.set 13 (.bool b) (A' := A) (x' := { x with kn := b }) rfl ⟨rfl, rfl, rfl⟩ ⟨rfl, rfl, rfl, rfl, rfl⟩ (fun w2 h => ⟨h.fr, h.tt, h.nt, h.ln, h.gt, h.lm, h.bel⟩)
theorem XAt.setAge (h : XAt w0 w xb A x) (a : Nat) : XAt w0 (w.setCell ⟨xb, 10, none⟩ (.int .i64 a)) xb A { x with age := a } :=
  h.set 10 (.int .i64 a) (A' := A) (x' := { x with age := a }) rfl ⟨rfl, rfl, rfl⟩ ⟨rfl, rfl, rfl, rfl, rfl⟩ (fun w2 h => ⟨h.fr, h.tt, h.nt, h.ln, h.gt, h.lm, h.bel⟩)
/-- the flow changes -/
theorem XAt.flow (h : XAt w0 w xb A x) {w' : World} {W L T G : Int} (hc : Chg w w' (fun b => b = A.fb)) (hf : FlowAt w' A.fb W L T G) : XAt w0 w' xb A { x with W := W, L := L, T := T, G := G } := by
  have hq := h.rest.at hc h.fl (by decide) h.lf
  obtain ⟨es, c, hm⟩ := h.fu.isMap
  refine ⟨?_, ⟨hq.fr, hq.tt, hq.nt, hq.ln, hq.gt, hq.lm, hq.bel⟩, hf, ?_, h.ne, h.lx, h.lf, h.lu⟩
  · exact (hc.block xb (lt_of_block h.cells) (fun e => cells_ne h.fl h.cells (by decide) e.symm)).trans h.cells
  · exact h.fu.kept (hc.block A.ub h.fu.lt (fun e => cells_map h.fl hm e.symm))
set_option maxRecDepth 100000 in
set_option maxHeartbeats 6400000 in
theorem xlisted_any (d : List UInt8) (h : XAt w0 w xb A x) (h0 : (readLn d).2 = 0) (hd : d.length ≤ 100000000) (h1 : Has E w0 1) (h2 : Has E w0 2) (h5 : Has E w0 5) (h8 : Has E w0 8) (h9 : Has E w0 9) :
    Calls Tryz.prog 71 #[.pointer (some ⟨xb, 0, none⟩), .string (bs d)] w fun e w' => e = .returned (.tuple #[]) ∧ ∃ A', XAt w0 w' xb A' (x.listed d) := by
  have HS := Lib.hid (fun (c : Nat) (hh : Has E w0 c) => hh.below h.rest.bel)
  have RD := flread_any E (bs d) w (by rw [bs_size]; exact hd) (HS.out 1 h1) (HS.out 2 h2) (HS.out 5 h5) (HS.out 8 h8) (HS.out 9 h9)
  rw [bs_list, h0, ev_zero] at RD
  have RD := Lib.hid RD
  have HX := Lib.hid h
  have XL : x.listed d = { x with ln := (readLn d).1, kn := true } := by unfold XS.listed; rw [if_pos h0]
  rw [XL]
  clear h h0 hd h1 h2 h5 h8 h9 HS XL
  generalize (readLn d).1 = l at *
  go_enter Tryz.func71, Tryz.ntmps71
  go_wp2_with fail
  refine RD.out.mono ?_
  rintro e w1 ⟨v, rfl, o1, b1⟩
  have X1 := HX.out.below b1
  have X2 := Lib.hid ((X1.setLn o1 HX.out.rest.bel.size).setKn true)
  have f12 := X1.cells.fz 12
  have f13 := X1.cells.fz 13
  have c12 := X1.cells.cs.2.2.2.2.2.2.2.2.2.2.2.2.1
  have c13 := X1.cells.cs.2.2.2.2.2.2.2.2.2.2.2.2.2.1
  obtain ⟨va, vc, rfl⟩ := owns_slice o1
  clear o1 b1 RD HX X1
  go_wp2_with fail
  go_returns
  exact ⟨rfl, _, X2.out⟩
set_option maxRecDepth 100000 in
set_option maxHeartbeats 6400000 in
theorem xtick_any (h : XAt w0 w xb A x) (ok : FlowOk x.W x.L x.T x.G) (ha : x.age ≤ 1000000) (hn : x.net.length ≤ 1000000000) (h2 : Has E w0 2) (h4 : Has E w0 4) :
    Calls Tryz.prog 23 #[.pointer (some ⟨xb, 0, none⟩)] w fun e w' => e = .returned (.tuple #[]) ∧ ∃ A', XAt w0 w' xb A' x.tick := by
  have HX := Lib.hid h
  have c15 := h.cells.cs.2.2.2.2.2.2.2.2.2.2.2.2.2.2.2
  by_cases hd : x.dn = true
  · have XL : x.tick = x := by unfold XS.tick; rw [if_pos (.inl hd)]
    rw [XL]
    rw [hd] at c15
    clear h h2 h4 ok XL hd
    go_enter Tryz.func23, Tryz.ntmps23
    go_wp2_with fail
    go_returns
    exact ⟨rfl, A, HX.out⟩
  · have hd0 : x.dn = false := by simpa using hd
    rw [hd0] at c15
    have c6 := h.cells.cs.2.2.2.2.2.2.1
    by_cases hk : x.ask.k = 0
    · have XL : x.tick = x := by unfold XS.tick; rw [if_pos (.inr hk)]
      rw [XL]
      rw [hk, show (((0 : UInt8).toNat : Nat) : Int) = 0 from rfl] at c6
      clear h h2 h4 ok XL hd hk hd0
      go_enter Tryz.func23, Tryz.ntmps23
      go_wp2_with fail
      go_returns
      exact ⟨rfl, A, HX.out⟩
    · have hkk : (((x.ask.k.toNat : Nat) : Int) == 0) = false := by
        rw [beq_eq_false_iff_ne]
        intro e
        exact hk (UInt8.toNat_inj.1 (by simpa using e))
      generalize hkI : ((x.ask.k.toNat : Nat) : Int) = kk at c6 hkk
      have c10 := h.cells.cs.2.2.2.2.2.2.2.2.2.2.1
      have f10 := h.cells.fz 10
      have X1 := Lib.hid (h.setAge (x.age + 1))
      have hw : IntKind.i64.wrap ((x.age : Int) + 1) = ((x.age + 1 : Nat) : Int) := by rw [IntWalk.i64_in _ (by omega)]; omega
      have c6' := X1.out.cells.cs.2.2.2.2.2.2.1
      generalize hage : x.age = age at *
      generalize hage1 : age + 1 = age1 at *
      clear h
      by_cases hT : x.T ≤ (age1 : Int)
      · have XL : x.tick = XS.put x.ask { x with age := 0 }.bad := by unfold XS.tick; rw [if_neg (by rintro (h | h) <;> contradiction), if_pos (by rw [hage, hage1]; exact hT)]
        rw [XL]
        have hTd : decide (x.T ≤ (age1 : Int)) = true := by simpa using hT
        have PT := Lib.hid (fun (w' : World) (X : XAt w0 w' xb A { x with age := 0 }.bad) => xput_any (E := E) x.ask X hn (h2.below X.rest.bel) (h4.below X.rest.bel))
        have OK := Lib.hid ok
        clear XL hd hk hd0 h2 h4 ok
        go_enter Tryz.func23, Tryz.ntmps23
        go_wp2_with fail
        generalize w.setCell ⟨xb, 10, none⟩ (.int .i64 age1) = w1 at *
        have c10 := X1.out.cells.cs.2.2.2.2.2.2.2.2.2.2.1
        have c11 := X1.out.cells.cs.2.2.2.2.2.2.2.2.2.2.2.1
        have WT := Lib.hid (fun n => wait_is A.fb x.W x.L x.T x.G (w1.drewN n) (X1.out.fl.drewN n))
        go_quiet ((go_at_call 37; exact Calls.quiet_of_same (WT.out _)))
        have Y1 := Lib.hid (X1.out.below (below_drewN (Below.refl _ w1) nq))
        generalize w1.drewN nq = w2 at *
        clear X1 c10 c11 c6 c6' c15 f10 WT
        have f10 := Y1.out.cells.fz 10
        have c10 := Y1.out.cells.cs.2.2.2.2.2.2.2.2.2.2.1
        have c11 := Y1.out.cells.cs.2.2.2.2.2.2.2.2.2.2.2.1
        have Y2 := Lib.hid (Y1.out.setAge 0)
        go_wp2_with fail
        refine (bad_is A.fb x.W x.L x.T x.G _ Y2.out.fl OK.out).mono ?_
        rintro e w3 ⟨rfl, hf, hg⟩
        have Y3 : XAt w0 w3 xb A { x with age := 0 }.bad := Y2.out.flow ⟨hg.os, hg.tape, hg.output, hg.size, fun k hk hn => hg.block k hk (fun e => hn (by cases e; rfl))⟩ hf
        have PT3 := PT.out w3 Y3
        rw [PFr.val_is, hkI] at PT3
        have PT3 := Lib.hid PT3
        have c6 := Y3.cells.cs.2.2.2.2.2.2.1
        have c7 := Y3.cells.cs.2.2.2.2.2.2.2.1
        have c8 := Y3.cells.cs.2.2.2.2.2.2.2.2.1
        have c9 := Y3.cells.cs.2.2.2.2.2.2.2.2.2.1
        have e6 : (XS.bad { x with age := 0 }).ask = x.ask := rfl
        rw [e6] at c6 c7 c8 c9
        rw [hkI] at c6
        clear hf hg Y1 Y2 Y3 OK PT c10 c11 f10 e6
        go_wp2_with fail
        refine PT3.out.mono ?_
        rintro e w4 ⟨rfl, A', hA⟩
        have HA := Lib.hid hA
        clear hA PT3
        go_wp2_with fail
        go_returns
        exact ⟨rfl, A', HA.out⟩
      · have XL : x.tick = { x with age := age1 } := by unfold XS.tick; rw [if_neg (by rintro (h | h) <;> contradiction), if_neg (by rw [hage, hage1]; exact hT), hage, hage1]
        rw [XL]
        have hTd : decide (x.T ≤ (age1 : Int)) = false := by simpa using hT
        clear XL hd hk hd0 h2 h4 ok
        go_enter Tryz.func23, Tryz.ntmps23
        go_wp2_with fail
        generalize w.setCell ⟨xb, 10, none⟩ (.int .i64 age1) = w1 at *
        have c10 := X1.out.cells.cs.2.2.2.2.2.2.2.2.2.2.1
        have c11 := X1.out.cells.cs.2.2.2.2.2.2.2.2.2.2.2.1
        have WT := Lib.hid (fun n => wait_is A.fb x.W x.L x.T x.G (w1.drewN n) (X1.out.fl.drewN n))
        go_quiet ((go_at_call 37; exact Calls.quiet_of_same (WT.out _)))
        have Y1 := Lib.hid (X1.out.below (below_drewN (Below.refl _ w1) nq))
        generalize w1.drewN nq = w2 at *
        clear X1 c10 c11 c6 c6' c15 f10 WT
        go_wp2_with fail
        go_returns
        exact ⟨rfl, A, Y1.out⟩
end
end Go.Proofs.YtdpoalbbcmkceaaGreatDoor
/- Contract of a transfer: begin. -/
namespace Go.Proofs.YtdpoalbbcmkceaaGreatDoor
open Go.RowKit
set_option linter.unusedVariables false
/-- a transfer whose flow and names are not there yet -/
structure XPre (w0 w : World) (xb : Nat) (A : XA) (pf pu : Value) (x : XS) : Prop where
  cells : XCell w xb A pf pu x
  rest : XRest w0 w A x
  lx : w0.heap.size ≤ xb
theorem gopen_x (n : Nat) (h : n < 1000000) : opC' (gmap n) tokX = 0 ∧ opN (gmap n) tokX = n + 1 ∧ opM (gmap n) tokX = gmap (n + 1) := by
  have h1 : mayC (gmap n) tokX = 0 := mayC_ok (by decide) (fun hh => by
    have : (gmap n).length ≤ 1 := by unfold gmap; split <;> simp
    omega)
  have h2 : opC' (gmap n) tokX = 0 := by unfold opC'; rw [if_neg (by simp [h1]), gmap_glk, if_neg (by omega)]
  refine ⟨h2, by unfold opN; rw [if_pos h2, gmap_glk], ?_⟩
  unfold opM
  rw [if_pos h2, gmap_glk]
  unfold gmap
  by_cases h0 : n = 0
  · subst h0; rfl
  · rw [if_neg h0, if_neg (by omega)]
    simp [gput]
section
variable {E : Nat → Addr} {w0 w w' : World} {xb : Nat} {A : XA} {x : XS} {pf pu : Value}
theorem XAt.pre (h : XAt w0 w xb A x) : XPre w0 w xb A (.pointer (some ⟨A.fb, 0, none⟩)) (.map (some A.ub)) x := ⟨h.cells, h.rest, h.lx⟩
theorem XPre.set (h : XPre w0 w xb A pf pu x) (k : Nat) (u : Value) {A' : XA} {pf' pu' : Value} {x' : XS} (e : (xcells A pf pu x).setIfInBounds k u = xcells A' pf' pu' x') (hr : ∀ w2, XRest w0 w2 A x → XRest w0 w2 A' x') : XPre w0 (w.setCell ⟨xb, k, none⟩ u) xb A' pf' pu' x' :=
  ⟨h.cells.set k u e, hr _ (h.rest.xset h.cells h.lx k u), h.lx⟩
theorem XPre.below (h : XPre w0 w xb A pf pu x) (hb : Below w.heap.size w w') : XPre w0 w' xb A pf pu x :=
  ⟨(hb.block xb (lt_of_block h.cells)).trans h.cells, h.rest.below hb, h.lx⟩
theorem XPre.open (h : XPre w0 w xb A pf pu x) {n : Nat} (hc : Chg w w' (fun b => b = A.mb)) (hg : GtAt w' A.gb A.mb n (gmap n)) : XPre w0 w' xb A pf pu { x with ge := n } := by
  obtain ⟨es, c, hm⟩ := h.rest.gt.mapObj
  have r := h.rest
  refine ⟨(hc.block xb (lt_of_block h.cells) (fun e => cells_map h.cells hm e)).trans h.cells, ⟨own_other r.fr hc (fun z hz e => own_ne_map r.fr hm (by rw [hz, e])), own_other r.tt hc (fun z hz e => own_ne_map r.tt hm (by rw [hz, e])), own_other r.nt hc (fun z hz e => own_ne_map r.nt hm (by rw [hz, e])), own_other r.ln hc (fun z hz e => own_ne_map r.ln hm (by rw [hz, e])), hg, r.lm, hc.below r.bel (fun z hz => by subst hz; exact r.lm)⟩, h.lx⟩
set_option maxRecDepth 100000 in
set_option maxHeartbeats 6400000 in
theorem xbegin_any (h : XPre w0 w xb A pf pu x) (hd : x.dn = false) (hg : x.ge < 1000000) (hn : x.net.length ≤ 1000000000) (h2 : Has E w0 2) (h4 : Has E w0 4) (h5 : Has E w0 5) (h8 : Has E w0 8) :
    Calls Tryz.prog 22 #[.pointer (some ⟨xb, 0, none⟩)] w fun e w' => e = .returned (.tuple #[]) ∧ ∃ A', XAt w0 w' xb A' x.begins := by
  have HX := Lib.hid h
  obtain ⟨g1, g2, g3⟩ := gopen_x x.ge hg
  have OP := gopen_any (E := E) tokX h.rest.gt (by decide) (by omega) (h2.below h.rest.bel) (h5.below h.rest.bel) (h8.below h.rest.bel)
  rw [g1, g2, g3, ev_zero] at OP
  rw [show bs tokX = ⟨#[120]⟩ from by unfold bs tokX; rfl] at OP
  have OP := Lib.hid OP
  have c15 := h.cells.cs.2.2.2.2.2.2.2.2.2.2.2.2.2.2.2
  have c2 := h.cells.cs.2.2.1
  rw [hd] at c15
  have XL : x.begins = XS.next { x with ge := x.ge + 1, ep := x.ge + 1, sq := 0, ask := zfr, age := 0, W := 1, L := 32, T := 2, G := 0, ln := [], kn := false, fu := [] } := by
    unfold XS.begins; rw [if_neg (by simp [hd]), if_neg (by omega)]
  rw [XL]
  have NX := Lib.hid (fun (w' : World) (A : XA) (X : XAt w0 w' xb A { x with ge := x.ge + 1, ep := x.ge + 1, sq := 0, ask := zfr, age := 0, W := 1, L := 32, T := 2, G := 0, ln := [], kn := false, fu := [] }) => xnext_ask (E := E) X rfl hn (show (0 : Nat) < 65536 by decide) h2 h4)
  obtain ⟨r, hr⟩ : ∃ r, XS.next { x with ge := x.ge + 1, ep := x.ge + 1, sq := 0, ask := zfr, age := 0, W := 1, L := 32, T := 2, G := 0, ln := [], kn := false, fu := [] } = r := ⟨_, rfl⟩
  rw [hr] at NX ⊢
  clear h hr XL g1 g2 g3 h2 h4 h5 h8 hn hd
  go_enter Tryz.func22, Tryz.ntmps22
  go_wp2_with fail
  refine OP.out.mono ?_
  rintro e w1 ⟨rfl, hg1, hc1⟩
  have P1 := HX.out.open hc1 hg1
  have f4 := P1.cells.fz 4
  have f5 := P1.cells.fz 5
  have f6 := P1.cells.fz 6
  have f7 := P1.cells.fz 7
  have f8 := P1.cells.fz 8
  have f9 := P1.cells.fz 9
  have f10 := P1.cells.fz 10
  obtain ⟨c0, c1, c2, c3, c4, c5, c6, c7, c8, c9, c10, c11, c12, c13, c14, c15⟩ := P1.cells.cs
  have P1 := Lib.hid P1
  clear hg1 hc1 HX OP c0 c1 c2 c3 c11 c12 c13 c14 c15
  have Q4 := P1.out.set 4 (.int .i64 ((x.ge : Int) + 1)) (A' := A) (pf' := pf) (pu' := pu) (x' := { x with ge := x.ge + 1, ep := x.ge + 1 }) (by first | rfl | simp [xcells, bs_nil]) (fun w2 h => ⟨h.fr, h.tt, h.nt, h.ln, h.gt, h.lm, h.bel⟩)
  have Q5 := Q4.set 5 (.int .i64 0) (A' := A) (pf' := pf) (pu' := pu) (x' := { x with ge := x.ge + 1, ep := x.ge + 1, sq := 0 }) (by first | rfl | simp [xcells, bs_nil]) (fun w2 h => ⟨h.fr, h.tt, h.nt, h.ln, h.gt, h.lm, h.bel⟩)
  have Q6 := Q5.set 6 (.int .u8 0) (A' := A) (pf' := pf) (pu' := pu) (x' := { x with ge := x.ge + 1, ep := x.ge + 1, sq := 0, ask := ⟨0, x.ask.e, x.ask.q, x.ask.d⟩ }) (by first | rfl | simp [xcells, bs_nil]) (fun w2 h => ⟨h.fr, h.tt, h.nt, h.ln, h.gt, h.lm, h.bel⟩)
  have Q7 := Q6.set 7 (.int .i64 0) (A' := A) (pf' := pf) (pu' := pu) (x' := { x with ge := x.ge + 1, ep := x.ge + 1, sq := 0, ask := ⟨0, 0, x.ask.q, x.ask.d⟩ }) (by first | rfl | simp [xcells, bs_nil]) (fun w2 h => ⟨h.fr, h.tt, h.nt, h.ln, h.gt, h.lm, h.bel⟩)
  have Q8 := Q7.set 8 (.int .i64 0) (A' := A) (pf' := pf) (pu' := pu) (x' := { x with ge := x.ge + 1, ep := x.ge + 1, sq := 0, ask := ⟨0, 0, 0, x.ask.d⟩ }) (by first | rfl | simp [xcells, bs_nil]) (fun w2 h => ⟨h.fr, h.tt, h.nt, h.ln, h.gt, h.lm, h.bel⟩)
  have Q9 := Q8.set 9 (.string ⟨#[]⟩) (A' := A) (pf' := pf) (pu' := pu) (x' := { x with ge := x.ge + 1, ep := x.ge + 1, sq := 0, ask := ⟨0, 0, 0, []⟩ }) (by first | rfl | simp [xcells, bs_nil]) (fun w2 h => ⟨h.fr, h.tt, h.nt, h.ln, h.gt, h.lm, h.bel⟩)
  have Q10 := Q9.set 10 (.int .i64 0) (A' := A) (pf' := pf) (pu' := pu) (x' := { x with ge := x.ge + 1, ep := x.ge + 1, sq := 0, age := 0, ask := ⟨0, 0, 0, []⟩ }) (by first | rfl | simp [xcells, bs_nil]) (fun w2 h => ⟨h.fr, h.tt, h.nt, h.ln, h.gt, h.lm, h.bel⟩)
  have Q := Lib.hid Q10
  clear Q4 Q5 Q6 Q7 Q8 Q9 Q10 P1
  go_wp2_with fail
  generalize (((((((w1.setCell ⟨xb, 4, none⟩ (.int .i64 ((x.ge : Int) + 1))).setCell ⟨xb, 5, none⟩ (.int .i64 0)).setCell ⟨xb, 6, none⟩ (.int .u8 0)).setCell ⟨xb, 7, none⟩ (.int .i64 0)).setCell ⟨xb, 8, none⟩ (.int .i64 0)).setCell ⟨xb, 9, none⟩ (.string ⟨#[]⟩)).setCell ⟨xb, 10, none⟩ (.int .i64 0)) = w2 at *
  clear c4 c5 c6 c7 c8 c9 c10 f4 f5 f6 f7 f8 f9 f10
  have FN := new_is w2
  refine FN.mono ?_
  rintro e w3 ⟨rfl, hf3, b3⟩
  have P3 := Q.out.below b3
  have hlx := lt_of_block Q.out.cells
  have P4 := P3.below (wb_alloc w3 (.map #[] 0))
  have hlb : w2.heap.size < w3.heap.size := hf3.lt
  have hf4 : FlowAt (w3.alloc (.map #[] 0)) w2.heap.size 1 32 2 0 := ((wb_alloc w3 (.map #[] 0)).block _ hlb).trans hf3
  have hm4 : FMapIs (w3.alloc (.map #[] 0)) w3.heap.size 0 [] := FMapIs.made w3
  have hmb : A.mb < w3.heap.size := by
    obtain ⟨es, c, hm⟩ := P3.rest.gt.mapObj
    exact lt_of_block hm
  have hb2 := Q.out.rest.bel.size
  have f11 := P4.cells.fz 11
  have f12 := P4.cells.fz 12
  have f13 := P4.cells.fz 13
  have f14 := P4.cells.fz 14
  obtain ⟨c0, c1, c2, c3, c4, c5, c6, c7, c8, c9, c10, c11, c12, c13, c14, c15⟩ := P4.cells.cs
  have R11 := P4.set 11 (.pointer (some ⟨w2.heap.size, 0, none⟩)) (A' := A) (pf' := .pointer (some ⟨w2.heap.size, 0, none⟩)) (pu' := pu) (x' := { x with ge := x.ge + 1, ep := x.ge + 1, sq := 0, ask := ⟨0, 0, 0, []⟩, age := 0 }) rfl (fun w2 h => ⟨h.fr, h.tt, h.nt, h.ln, h.gt, h.lm, h.bel⟩)
  have R12 := R11.set 12 (.slice none 0 0) (A' := { A with vl := .slice none 0 0 }) (pf' := .pointer (some ⟨w2.heap.size, 0, none⟩)) (pu' := pu) (x' := { x with ge := x.ge + 1, ep := x.ge + 1, sq := 0, ask := ⟨0, 0, 0, []⟩, age := 0, ln := [] }) rfl (fun w2 h => ⟨h.fr, h.tt, h.nt, World.ownsRow_nil _ _ _ _, h.gt, h.lm, h.bel⟩)
  have R13 := R12.set 13 (.bool false) (A' := { A with vl := .slice none 0 0 }) (pf' := .pointer (some ⟨w2.heap.size, 0, none⟩)) (pu' := pu) (x' := { x with ge := x.ge + 1, ep := x.ge + 1, sq := 0, ask := ⟨0, 0, 0, []⟩, age := 0, ln := [], kn := false }) rfl (fun w2 h => ⟨h.fr, h.tt, h.nt, h.ln, h.gt, h.lm, h.bel⟩)
  have R14 := R13.set 14 (.map (some w3.heap.size)) (A' := { A with vl := .slice none 0 0, fb := w2.heap.size, ub := w3.heap.size }) (pf' := .pointer (some ⟨w2.heap.size, 0, none⟩)) (pu' := .map (some w3.heap.size)) (x' := { x with ge := x.ge + 1, ep := x.ge + 1, sq := 0, ask := zfr, age := 0, W := 1, L := 32, T := 2, G := 0, ln := [], kn := false, fu := [] }) rfl (fun w2 h => ⟨h.fr, h.tt, h.nt, h.ln, h.gt, h.lm, h.bel⟩)
  have hcc := (((XCell.chg (w3.alloc (.map #[] 0)) xb 11 (.pointer (some ⟨w2.heap.size, 0, none⟩))).set ⟨xb, 12, none⟩ (.inl rfl) (.slice none 0 0)).set ⟨xb, 13, none⟩ (.inl rfl) (.bool false)).set ⟨xb, 14, none⟩ (.inl rfl) (.map (some w3.heap.size))
  have XA0 := Lib.hid (NX.out _ _ ⟨R14.cells, R14.rest, (hcc.block w2.heap.size (by simp; omega) (by omega)).trans hf4, hm4.kept (hcc.block w3.heap.size (by simp) (by omega)), by show w3.heap.size ≠ A.mb; omega, R14.lx, by show _ ≤ w2.heap.size; exact hb2, by show _ ≤ w3.heap.size; omega⟩)
  have hmm := @run_makeMap Tryz.prog
  clear R11 R12 R13 R14 hcc hm4 hf4 hf3 b3 P3 P4 Q NX FN c0 c1 c2 c3 c4 c5 c6 c7 c8 c9 c10 c15
  go_wp2_with fail
  refine XA0.out.mono ?_
  rintro e w4 ⟨rfl, A', hA⟩
  have HA := Lib.hid hA
  clear hA XA0
  go_wp2_with fail
  go_returns
  exact ⟨rfl, A', HA.out⟩
end
end Go.Proofs.YtdpoalbbcmkceaaGreatDoor
/- Contracts of a transfer: New, To, Done, Under. -/
namespace Go.Proofs.YtdpoalbbcmkceaaGreatDoor
open Go.RowKit
set_option linter.unusedVariables false
section
variable {E : Nat → Addr} {w0 w w' : World} {xb : Nat} {A : XA} {x : XS}
set_option maxRecDepth 100000 in
set_option maxHeartbeats 6400000 in
theorem xnew_any (fr t : List PF) (v1 v2 : Value) (w : World) (h1 : SliceIs w v1 2 (fcells fr)) (h2 : SliceIs w v2 2 (fcells t)) (hf : FWF fr) (ht : FWF t) (e2 : Has E w 2) (e4 : Has E w 4) (e5 : Has E w 5) (e8 : Has E w 8) (e9 : Has E w 9) :
    Calls Tryz.prog 7 #[v1, v2] w fun e w' => ∃ xb A', e = .returned (.tuple #[.pointer (some ⟨xb, 0, none⟩), .nilIface]) ∧ XAt w w' xb A' (XS.start fr t) := by
  have C1 := Lib.hid (flcheck_any E fr v1 w h1 hf.okx (by have := hf.few; omega) e2 e5 e8 e9)
  have C2 := Lib.hid (fun (w' : World) (b : Below w.heap.size w w') => flcheck_any E t v2 w' (h2.below b) ht.okx (by have := ht.few; omega) (e2.below b) (e5.below b) (e8.below b) (e9.below b))
  have K1 := Lib.hid (fun (w' : World) (b : Below w.heap.size w w') => flclone_any fr v1 w' (h1.below b) (by have := hf.few; omega))
  have K2 := Lib.hid (fun (w' : World) (b : Below w.heap.size w w') => flclone_any t v2 w' (h2.below b) (by have := ht.few; omega))
  have Z1 := Lib.hid ((flFault_wf fr).2 hf)
  have Z2 := Lib.hid ((flFault_wf t).2 ht)
  have BG := Lib.hid (fun (w' : World) (xb : Nat) (A : XA) (X : XPre w w' xb A (.pointer none) (.map none) ⟨fr, t, 0, [], 0, 0, zfr, 0, 1, 32, 2, 0, [], false, [], false⟩) => xbegin_any (E := E) X rfl (show (0 : Nat) < 1000000 by decide) (show ([] : List (List UInt8 × Bool)).length ≤ 1000000000 by decide) e2 e4 e5 e8)
  clear h1 h2 hf ht e2 e4 e5 e8 e9
  go_enter Tryz.func7, Tryz.ntmps7
  go_wp2_with fail
  refine C1.out.mono ?_
  rintro e w1 ⟨r, rfl, fe, b1⟩
  rw [Z1.out] at fe
  obtain rfl := fe.zero
  clear fe C1
  go_wp2_with fail
  refine (C2.out _ b1).mono ?_
  rintro e w2 ⟨r, rfl, fe, b2⟩
  rw [Z2.out] at fe
  obtain rfl := fe.zero
  have b2 := below_trans' b1 b2
  clear fe C2 b1
  go_wp2_with fail
  refine (K1.out _ b2).mono ?_
  rintro e w3 ⟨rf, rfl, of, b3⟩
  have of := owns_mono' of b2.size
  have b3' := below_trans' b2 b3
  clear b2 b3 K1
  go_wp2_with fail
  refine (K2.out _ b3').mono ?_
  rintro e w4 ⟨rt, rfl, ot, b4⟩
  have of := owns_below of b4
  have ot := owns_mono' ot b3'.size
  have b4' := below_trans' b3' b4
  clear b3' b4 K2
  go_wp2_with fail
  refine (gnew_any w4).mono ?_
  rintro e w5 ⟨gb, mb, rfl, hg, b5, l1, l2⟩
  have hsz := b4'.size
  have of := owns_below of b5
  have ot := owns_below ot b5
  have b5' := below_trans' b4' b5
  have HB := Lib.hid (wb_alloc w5 (.cells #[rf, rt, .pointer (some ⟨gb, 0, none⟩), .slice none 0 0, .int .i64 0, .int .i64 0, .int .u8 0, .int .i64 0, .int .i64 0, .string ⟨#[]⟩, .int .i64 0, .pointer none, .slice none 0 0, .bool false, .map none, .bool false] 59))
  have XP : XPre w (w5.alloc (.cells #[rf, rt, .pointer (some ⟨gb, 0, none⟩), .slice none 0 0, .int .i64 0, .int .i64 0, .int .u8 0, .int .i64 0, .int .i64 0, .string ⟨#[]⟩, .int .i64 0, .pointer none, .slice none 0 0, .bool false, .map none, .bool false] 59)) w5.heap.size ⟨rf, rt, .slice none 0 0, .slice none 0 0, gb, mb, 0, 0⟩ (.pointer none) (.map none) ⟨fr, t, 0, [], 0, 0, zfr, 0, 1, 32, 2, 0, [], false, [], false⟩ :=
    ⟨by unfold XCell xcells; rw [heap_alloc_new, show bs zfr.d = ⟨#[]⟩ from bs_nil]; rfl, ⟨owns_below of HB.out, owns_below ot HB.out, World.ownsRow_nil _ _ _ _, World.ownsRow_nil _ _ _ _, hg.below HB.out, Nat.le_trans hsz l2, below_trans' b5' HB.out⟩, by have := b5'.size; omega⟩
  have BGX := Lib.hid (BG.out _ _ _ XP)
  obtain ⟨fa, fc, rfl⟩ := owns_slice of
  obtain ⟨ta, tc, rfl⟩ := owns_slice ot
  clear XP of ot hg b4' b5 b5' HB BG l1 l2
  go_wp2_with fail
  refine BGX.out.mono ?_
  rintro e w6 ⟨rfl, A', hA⟩
  have HA := Lib.hid hA
  clear hA BGX
  go_wp2_with fail
  go_ret2
  exact ⟨_, A', rfl, HA.out⟩
set_option maxRecDepth 100000 in
theorem xto_any (h : XAt w0 w xb A x) (hl : x.tt.length ≤ 1000000) :
    Calls Tryz.prog 11 #[.pointer (some ⟨xb, 0, none⟩)] w fun e w' => ∃ r, e = .returned r ∧ w'.ownsRow w.heap.size 49 2 r x.tt.length (fcells x.tt) ∧ Below w.heap.size w w' := by
  have CL := Lib.hid (flclone_any x.tt A.vt w (SliceIs.ownedK h.rest.tt) hl)
  have c1 := h.cells.cs.2.1
  clear h
  go_enter Tryz.func11, Tryz.ntmps11
  go_wp2_with fail
  refine CL.out.mono ?_
  rintro e w1 ⟨r, rfl, o1, b1⟩
  have O1 := Lib.hid o1
  have B1 := Lib.hid b1
  obtain ⟨va, vc, rfl⟩ := owns_slice o1
  clear o1 b1 CL c1
  go_wp2_with fail
  go_ret
  exact ⟨_, rfl, O1.out, B1.out⟩
set_option maxRecDepth 100000 in
theorem xdone_any (h : XAt w0 w xb A x) :
    Calls Tryz.prog 17 #[.pointer (some ⟨xb, 0, none⟩)] w fun e w' => e = .returned (.bool x.dn) ∧ w' = w := by
  have c15 := h.cells.cs.2.2.2.2.2.2.2.2.2.2.2.2.2.2.2
  clear h
  go_enter Tryz.func17, Tryz.ntmps17
  go_wp2_with fail
  go_ret
  exact ⟨rfl, rfl⟩
set_option maxRecDepth 100000 in
theorem xunder_any (h : XAt w0 w xb A x) :
    Calls Tryz.prog 16 #[.pointer (some ⟨xb, 0, none⟩)] w fun e w' => e = .returned (.int .i64 x.net.length) ∧ w' = w := by
  have c3 := h.cells.cs.2.2.2.1
  obtain ⟨va, vc, hv⟩ := owns_slice h.rest.nt
  rw [hv] at c3
  clear h
  go_enter Tryz.func16, Tryz.ntmps16
  go_wp2_with fail
  go_ret
  exact ⟨rfl, rfl⟩
end
end Go.Proofs.YtdpoalbbcmkceaaGreatDoor
/- slices.Delete at a transfer's packets: one packet is taken out. -/
namespace Go.Proofs.YtdpoalbbcmkceaaGreatDoor
open Go.RowKit
set_option linter.unusedVariables false
section
variable {α : Type}
def layL (l : List α) (k : Nat) : List α → List α
  | [] => l
  | x :: m => layL (l.set k x) (k + 1) m
theorem layL_len (m : List α) : ∀ (l : List α) (k : Nat), (layL l k m).length = l.length := by
  induction m with
  | nil => intro l k; rfl
  | cons x m ih => intro l k; unfold layL; rw [ih, List.length_set]
theorem layL_is (m : List α) : ∀ (l : List α) (k : Nat), k + m.length ≤ l.length → layL l k m = l.take k ++ m ++ l.drop (k + m.length) := by
  induction m with
  | nil => intro l k h; simp [layL]
  | cons x m ih =>
    intro l k h
    rw [List.length_cons] at h
    unfold layL
    have hk : k < l.length := by omega
    rw [ih _ _ (by rw [List.length_set]; omega)]
    have e1 : (l.set k x).take (k + 1) = l.take k ++ [x] := by
      rw [List.take_succ_eq_append_getElem (by rw [List.length_set]; exact hk), List.getElem_set_self, List.take_set_of_le (Nat.le_refl k)]
    have e2 : (l.set k x).drop (k + 1 + m.length) = l.drop (k + (m.length + 1)) := by
      rw [List.drop_set_of_lt (by omega)]
      congr 1
      omega
    rw [e1, e2]
    simp
theorem layL_erase {l : List α} {k : Nat} (h : k < l.length) : (layL l k (l.drop (k + 1))).take (l.length - 1) = l.eraseIdx k := by
  rw [layL_is _ _ _ (by rw [List.length_drop]; omega), List.eraseIdx_eq_take_drop_succ]
  rw [List.take_append_of_le_length (by simp; omega)]
  exact List.take_of_length_le (by simp; omega)
variable (f g : α → Value)
theorem own_lays {base g0 cap n : Nat} {e : TypeId} (m : List α) : ∀ {w : World} {l : List α} (k : Nat), w.ownsRow base e 2 (.slice (some ⟨g0, 0, none⟩) n cap) n (rowc f g l) →
    (w.setCells g0 (k * 2) (rowc f g m)).ownsRow base e 2 (.slice (some ⟨g0, 0, none⟩) n cap) n (rowc f g (layL l k m)) ∧ w.grownBy (w.setCells g0 (k * 2) (rowc f g m)) (some g0) := by
  induction m with
  | nil => intro w l k h; exact ⟨h, rfl, rfl, rfl, Nat.le_refl _, fun _ _ _ => rfl⟩
  | cons x m ih =>
    intro w l k h
    have h1 := own2_store f g h k x
    obtain ⟨h2, h3⟩ := ih (k + 1) h1
    rw [show (k + 1) * 2 = k * 2 + 1 + 1 by omega] at h2 h3
    refine ⟨h2, ?_⟩
    exact grownBy_trans (grownBy_trans (grownBy_set w g0 (k * 2) (f x)) (grownBy_set _ g0 (k * 2 + 1) (g x))) h3
end
theorem pcells_drop (l : List (List UInt8 × Bool)) (k : Nat) : (pcells l).drop (k * 2) = pcells (l.drop k) := by
  induction l generalizing k with
  | nil => simp [pcells, rowc]
  | cons o l ih =>
    match k with
    | 0 => simp
    | k + 1 =>
      rw [List.drop_succ_cons, ← ih k, show (k + 1) * 2 = k * 2 + 2 by omega]
      rfl
theorem zeroPk (w : World) : (zeroValue 62).run Tryz.prog w = .ok (.agg #[.string ⟨#[]⟩, .bool false]) w := by kernel_rfl
theorem own_is {w : World} {base n : Nat} {e : TypeId} {size : Nat} {v : Value} {xs : List Value} (h : w.ownsRow base e size v n xs) (hn : 0 < n) : ∃ g cap, v = .slice (some ⟨g, 0, none⟩) n cap ∧ n ≤ cap ∧ cap ≤ maxLen := by
  rcases h.2 with ⟨rfl, h0⟩ | ⟨g, cap, cur, hv, hg, hh, h3, h4, h5, h6⟩
  · first | omega | (have := h.1; simp_all)
  · exact ⟨g, cap, hv, h3, h4⟩
section
set_option maxRecDepth 100000 in
set_option maxHeartbeats 6400000 in
theorem xdel_any (l : List (List UInt8 × Bool)) (base k : Nat) (v : Value) (w : World) (hown : w.ownsRow base 62 2 v l.length (pcells l)) (hk : k < l.length) (hl : l.length ≤ 1000000000) :
    Calls Tryz.prog 25 #[v, .int .i64 k, .int .i64 ((k : Int) + 1)] w fun e w' => ∃ r, e = .returned r ∧ w'.ownsRow base 62 2 r (l.eraseIdx k).length (pcells (l.eraseIdx k)) ∧ w.grownBy w' v.ownBlock := by
  obtain ⟨g, cap, rfl, hc1, hc2⟩ := own_is hown (by omega)
  obtain ⟨i0, hi, hs0, hs1, hs2⟩ := info_parts infoPk
  have HO := Lib.hid hown
  obtain ⟨n, hn⟩ : ∃ n, l.length = n := ⟨_, rfl⟩
  rw [hn] at hk hl hc1 hown ⊢
  have y1 : (0 : Int) ≤ k := by omega
  have y2 : (k : Int).toNat = k := by omega
  have y3 : ((k : Int) + 1).toNat = k + 1 := by omega
  have y4 : (k : Int) + 1 ≤ n := by omega
  have y5 : (k : Int) ≤ (k : Int) + 1 := by omega
  have y6 : (n : Int) ≤ cap := by omega
  have y7 : (0 : Int) ≤ (k : Int) + 1 := by omega
  have y8 : ((k : Int) == (k : Int) + 1) = false := by rw [beq_eq_false_iff_ne]; omega
  have SRC : ∀ j u, (pcells (l.drop (k + 1)))[j]? = some u → w.cell? ((⟨g, (k + 1) * 2, none⟩ : Addr).add j) = some u := by
    intro j u hj
    have hlt := (List.getElem?_eq_some_iff.1 hj).1
    rw [pcells_len, List.length_drop] at hlt
    have := HO.out.cellAt ((k + 1) * 2 + j) (by omega)
    rw [show ((⟨g, (k + 1) * 2, none⟩ : Addr).add j) = ⟨g, (k + 1) * 2 + j, none⟩ from by simp [Addr.add_lit], this, ← hj, ← pcells_drop, List.getElem?_drop]
  have NL : (pcells (l.drop (k + 1))).length = (n - (k + 1)) * 2 := by rw [pcells_len, List.length_drop, hn]
  have HONE := Lib.hid (show ∀ u ∈ pcells (l.drop (k + 1)), u.oneCell' = true from rowc_oneCell _ _ (fun _ => ⟨rfl, rfl⟩) _)
  have SPARE : ∀ j, j < (pcells (l.drop (k + 1))).length → (w.cell? ⟨g, 0 + k * 2 + j, none⟩).isSome = true ∧ w.frozen? ⟨g, 0 + k * 2 + j, none⟩ = false := by
    intro j hj
    refine ⟨?_, HO.out.frozenAt _⟩
    rw [HO.out.cellAt _ (by omega), List.getElem?_eq_getElem (by rw [pcells_len]; omega)]
    rfl
  obtain ⟨OL, GL⟩ : (w.drew.setCells g (k * 2) (pcells (l.drop (k + 1)))).ownsRow base 62 2 (.slice (some ⟨g, 0, none⟩) l.length cap) l.length (pcells (layL l k (l.drop (k + 1)))) ∧ w.drew.grownBy (w.drew.setCells g (k * 2) (pcells (l.drop (k + 1)))) (some g) := by
    have := owns_below HO.out (Below.drew (Below.refl _ _))
    exact own_lays pk0 pk1 (l.drop (k + 1)) k this
  have SRC := Lib.hid SRC
  have NL := Lib.hid NL
  have SPARE := Lib.hid SPARE
  have z1 : k + (n - (k + 1)) = n - 1 := by omega
  rw [hn] at OL
  obtain ⟨w3, hrun, O3, G3⟩ := run_clear_own (P := Tryz.prog) (t := 53) (k := n - 1) OL (by omega) (by decide) Tryz.underlying53 (zeroPk _) rfl (by intro u hu; simp [Value.cells] at hu; rcases hu with rfl | rfl <;> rfl)
  have R1 := Lib.hid (show pcells (l.eraseIdx k) = (pcells (layL l k (l.drop (k + 1)))).take ((n - 1) * 2) by unfold pcells; rw [rowc_take, ← hn, layL_erase (by omega)])
  have R2 := Lib.hid (show (l.eraseIdx k).length = n - 1 by rw [List.length_eraseIdx_of_lt (by omega), hn])
  have O4 := Lib.hid O3
  clear O3
  have G4 := Lib.hid (grownBy_trans (grownBy_trans (grownBy_below (Below.drew (Below.refl _ _))) GL) G3)
  have y9 : ((n - 1 : Nat) : Int).toNat = n - 1 := by omega
  have y10 : ((n - 1 : Nat) : Int) ≤ n := by omega
  have y11 : (0 : Int) ≤ ((n - 1 : Nat) : Int) := by omega
  have y12 : ¬ cap = n - 1 := by omega
  clear hown OL GL
  have hsz : i0.size = 2 := by first | exact hs1 | exact hs2
  have y13 : (k : Int) ≤ cap := by omega
  have y14 : (k : Int) + 1 ≤ cap := by omega
  have y15 : ((n - 1 : Nat) : Int) ≤ cap := by omega
  generalize pcells (layL l k (l.drop (k + 1))) = lay at *
  generalize pcells (l.drop (k + 1)) = news at *
  by_cases hcap : cap = k + 1
  · subst hcap
    obtain rfl : n = k + 1 := by omega
    have hnn : news = [] := List.eq_nil_of_length_eq_zero (by have := NL.out; omega)
    subst hnn
    have NN := Lib.hid (show ([] : List Value).length = 0 * 2 from rfl)
    have NS := Lib.hid (show ∀ j u, ([] : List Value)[j]? = some u → w.drew.cell? ((⟨g, 0, none⟩ : Addr).add j) = some u from fun j u h => by simp at h)
    have HONE := Lib.hid (show ∀ u ∈ ([] : List Value), u.oneCell' = true from fun u h => by cases h)
    have SPARE := Lib.hid (show ∀ j, j < ([] : List Value).length → (w.drew.cell? ⟨g, 0 + k * 2 + j, none⟩).isSome = true ∧ w.drew.frozen? ⟨g, 0 + k * 2 + j, none⟩ = false from fun j h => by simp at h)
    go_enter Tryz.func25, Tryz.ntmps25
    go_wp2_with fail
    go_region_law (refine step_append_room rfl (.tmp 22) (.tmp 25) 53 rfl 62 i0 2 Tryz.underlying53 hi hsz g 0 k (k + 1) (by simp [Act.eval, Act.put]) ⟨g, 0, none⟩ 0 0 [] (by simp [Act.eval, Act.put]) NN.out NS.out HONE.out (by omega) SPARE.out ?_)
    all_goals
      generalize w.drew.setCells g (k * 2) [] = w2 at *
      simp only [Nat.add_sub_cancel, Nat.add_sub_cancel_left] at hrun
      go_wp2_with fail
      go_ret
      exact ⟨_, rfl, by rw [R1.out, R2.out]; exact O4.out, G4.out⟩
  · go_enter Tryz.func25, Tryz.ntmps25
    go_wp2_with fail
    go_region_law (refine step_append_room rfl (.tmp 22) (.tmp 25) 53 rfl 62 i0 2 Tryz.underlying53 hi hsz g 0 k cap (by simp [Act.eval, Act.put]) ⟨g, (k + 1) * 2, none⟩ (n - (k + 1)) (cap - (k + 1)) news (by simp [Act.eval, Act.put]) NL.out (SRC.out) HONE.out (by omega) SPARE.out ?_)
    generalize w.drew.setCells g (k * 2) news = w2 at *
    go_wp2_with fail
    go_ret
    exact ⟨_, rfl, by rw [R1.out, R2.out]; exact O4.out, G4.out⟩
end
section
variable {E : Nat → Addr} {w0 w : World} {xb : Nat} {A : XA} {x : XS}
/-- the net's row changed in its own block -/
theorem XAt.netTo (h : XAt w0 w xb A x) {w' : World} {v' : Value} {net' : List (List UInt8 × Bool)} (hg : w.grownBy w' A.vn.ownBlock) (hn : w'.ownsRow w0.heap.size 62 2 v' net'.length (pcells net')) :
    XAt w0 (w'.setCell ⟨xb, 3, none⟩ v') xb { A with vn := v' } { x with net := net' } := by
  have hc : Chg w w' (fun b => A.vn.ownBlock = some b) := ⟨hg.os, hg.tape, hg.output, hg.size, fun k hk hn => hg.block k hk (fun e => hn e.symm)⟩
  obtain ⟨es, c, hm⟩ := h.fu.isMap
  have h1 : XCell w' xb A (.pointer (some ⟨A.fb, 0, none⟩)) (.map (some A.ub)) x := (hc.block xb (lt_of_block h.cells) (own_ne h.rest.nt h.cells (by decide))).trans h.cells
  have h2 : FlowAt w' A.fb x.W x.L x.T x.G := (hc.block A.fb h.fl.lt (own_ne h.rest.nt h.fl (by decide))).trans h.fl
  have h3 : FMapIs w' A.ub x.fu.length x.fu := h.fu.kept (hc.block A.ub h.fu.lt (own_ne_map h.rest.nt hm))
  have hr := h.rest.netAt hc hn
  have hc2 := XCell.chg w' xb 3 v'
  have hs : XCell (w'.setCell ⟨xb, 3, none⟩ v') xb { A with vn := v' } (.pointer (some ⟨A.fb, 0, none⟩)) (.map (some A.ub)) { x with net := net' } := h1.set 3 v' rfl
  obtain ⟨es2, c2, hm2⟩ := h3.isMap
  refine ⟨hs, hr.at hc2 h1 (by decide) h.lx, ?_, ?_, h.ne, h.lx, h.lf, h.lu⟩
  · exact (hc2.block A.fb h2.lt (cells_ne h2 h1 (by decide))).trans h2
  · exact h3.kept (hc2.block A.ub h3.lt (fun e => cells_map h1 hm2 e.symm))
theorem XAt.netCell (h : XAt w0 w xb A x) {w' : World} (hg : w.grownBy w' A.vn.ownBlock) : w'.frozen? ⟨xb, 3, none⟩ = false ∧ w'.cell? ⟨xb, 3, none⟩ = some A.vn := by
  have h1 : XCell w' xb A (.pointer (some ⟨A.fb, 0, none⟩)) (.map (some A.ub)) x := (hg.block xb (lt_of_block h.cells) (fun e => own_ne h.rest.nt h.cells (by decide) e.symm)).trans h.cells
  exact ⟨h1.fz 3, h1.cs.2.2.2.1⟩
end
end Go.Proofs.YtdpoalbbcmkceaaGreatDoor
/- Contract of a transfer: turn: a bit of the first packet is turned. -/
namespace Go.Proofs.YtdpoalbbcmkceaaGreatDoor
open Go.RowKit
set_option linter.unusedVariables false
section
variable {E : Nat → Addr} {w0 w w' : World} {xb : Nat} {A : XA} {x : XS}
theorem XAt.netSet (h : XAt w0 w xb A x) {net' : List (List UInt8 × Bool)} (hc : Chg w w' (fun b => A.vn.ownBlock = some b)) (hn : w'.ownsRow w0.heap.size 62 2 A.vn net'.length (pcells net')) : XAt w0 w' xb A { x with net := net' } := by
  obtain ⟨es, c, hm⟩ := h.fu.isMap
  have h1 : XCell w' xb A (.pointer (some ⟨A.fb, 0, none⟩)) (.map (some A.ub)) x := (hc.block xb (lt_of_block h.cells) (own_ne h.rest.nt h.cells (by decide))).trans h.cells
  have h2 : FlowAt w' A.fb x.W x.L x.T x.G := (hc.block A.fb h.fl.lt (own_ne h.rest.nt h.fl (by decide))).trans h.fl
  have h3 : FMapIs w' A.ub x.fu.length x.fu := h.fu.kept (hc.block A.ub h.fu.lt (own_ne_map h.rest.nt hm))
  have hr := h.rest.netAt hc hn
  exact ⟨h1, hr, h2, h3, h.ne, h.lx, h.lf, h.lu⟩
set_option maxRecDepth 100000 in
set_option maxHeartbeats 12800000 in
theorem xturn_any (q : Nat) (h : XAt w0 w xb A x) (hq : q ≤ 1152921504606846976) (p : List UInt8 × Bool) (r : List (List UInt8 × Bool)) (hnet : x.net = p :: r) (hl : x.net.length ≤ 1000000000) (h0 : 0 < p.1.length) (h1 : p.1.length ≤ 100000) :
    Calls Tryz.prog 26 #[.pointer (some ⟨xb, 0, none⟩), .int .i64 q] w fun e w' => e = .returned (.tuple #[]) ∧ ∃ A', XAt w0 w' xb A' (x.turn q) := by
  have hlen : x.net.length = r.length + 1 := by rw [hnet]; rfl
  have HX := Lib.hid h
  have c3 := h.cells.cs.2.2.2.1
  obtain ⟨g, cap, hv, hc1, hc2⟩ := own_is h.rest.nt (by omega)
  have HO := h.rest.nt
  rw [hv] at HO c3
  have d0 := HO.cellAt (0 * 2) (by omega)
  have d1 := HO.cellAt (0 * 2 + 1) (by omega)
  have hp0 : x.net[0]'(by omega) = p := by simp [hnet]
  rw [(pcells_get x.net 0 (by omega)).1, hp0] at d0
  rw [(pcells_get x.net 0 (by omega)).2, hp0] at d1
  simp only [Nat.zero_mul, Nat.zero_add] at d0 d1
  have fz0 := HO.frozenAt 0
  have fz1 := HO.frozenAt 1
  have hlI : (0 : Int) < x.net.length := by omega
  have XT : x.turn q = if p.2 = true then x else { x with net := (XS.flip p.1 q, true) :: r } := by unfold XS.turn; rw [hnet]
  cases hp2 : p.2 with
  | true =>
    rw [hp2] at d1 XT
    rw [XT, if_pos rfl]
    clear h XT HO hnet hp0 hv
    go_enter Tryz.func26, Tryz.ntmps26
    go_wp2_with fail
    go_returns
    exact ⟨rfl, A, HX.out⟩
  | false =>
    rw [hp2] at d1 XT
    rw [XT, if_neg (by simp)]
    obtain ⟨L, hL⟩ : ∃ L, p.1 = L := ⟨_, rfl⟩
    rw [hL] at d0 h0 h1 ⊢
    obtain ⟨m, hm⟩ : ∃ m, m = q % (8 * L.length) := ⟨_, rfl⟩
    have hml : m < 8 * L.length := by rw [hm]; exact Nat.mod_lt _ (by omega)
    have hwm : IntKind.i64.wrap (8 * (L.length : Int)) = 8 * (L.length : Int) := IntWalk.i64_in _ (by omega)
    have hmm : (q : Int) % (8 * (L.length : Int)) = (m : Int) := by rw [hm]; simp
    have hmt : (q : Int).tmod (8 * (L.length : Int)) = (m : Int) := by rw [Int.tmod_eq_emod_of_nonneg (by omega)]; exact hmm
    have hmw : IntKind.i64.wrap ((q : Int).tmod (8 * (L.length : Int))) = (m : Int) := by rw [hmt]; exact IntWalk.i64_in _ (by omega)
    have hmw2 : IntKind.i64.wrap (m : Int) = (m : Int) := IntWalk.i64_in _ (by omega)
    have hne0 : ((8 * (L.length : Int)) == 0) = false := by rw [beq_eq_false_iff_ne]; omega
    obtain ⟨pp, hpp⟩ : ∃ pp, pp = m / 8 := ⟨_, rfl⟩
    obtain ⟨qq, hqq⟩ : ∃ qq, qq = m % 8 := ⟨_, rfl⟩
    have hpl : pp < L.length := by omega
    have hps : pp < (bs L).size := by rw [bs_size]; exact hpl
    have hq8 : qq < 8 := by omega
    have e1 : (m : Int) / 8 = (pp : Int) := by omega
    have e2 : (m : Int) % 8 = (qq : Int) := by omega
    obtain ⟨cap', o, hcv, hcap, hcell, hfr⟩ := convB_text (P := Tryz.prog) w 9 85 5 (bs L) Tryz.underlying9 Tryz.underlying85 Tryz.underlying5
    have hc := hcell pp hps
    have hfz := hfr pp hps
    obtain ⟨z, hz⟩ : ∃ z : UInt8, z = UInt8.ofNat (2 ^ qq) := ⟨_, rfl⟩
    have hq256 : 2 ^ qq < 256 := by
      have := Nat.pow_lt_pow_right (show 1 < 2 by decide) hq8
      simpa using this
    have hzn : z.toNat = 2 ^ qq := by rw [hz]; simp; omega
    have hpw : (2 : Int) ^ qq % 256 = (z.toNat : Int) := by
      have h2 : ((2 : Int) ^ qq) = ((2 ^ qq : Nat) : Int) := by simp
      rw [h2, hzn]
      generalize (2 ^ qq : Nat) = z at *
      omega
    obtain ⟨y, hy⟩ : ∃ y : UInt8, y = (bs L)[pp] ^^^ z := ⟨_, rfl⟩
    have hxor : bits .xor .u8 ((bs L)[pp].toNat : Int) (z.toNat : Int) = (y.toNat : Int) := by
      rw [u8_xor_nat _ _ (bs L)[pp].toNat_lt z.toNat_lt, hy, UInt8.toNat_xor]
    have hback := convB_back (P := Tryz.prog) (w.alloc o).drew 85 9 5 w.heap.size cap' pp (bs L) y Tryz.underlying85 Tryz.underlying5 Tryz.underlying9 hps hcell
    have hbp : (bs L)[pp] = L[pp] := by show (bs L).data[pp] = _; simp [bs]
    have hly : (⟨((bs L).data.toList.set pp y).toArray⟩ : ByteArray) = bs (L.set pp y) := by rw [bs_list]; unfold bs; rfl
    rw [hly, bs_size] at hback
    replace hback : (convert 85 9 (.slice (some ⟨w.heap.size, 0, none⟩) L.length cap')).run Tryz.prog (((w.alloc o).setCell ⟨w.heap.size, pp, none⟩ (.int .u8 y.toNat)).drew.drew) = .ok (.string (bs (L.set pp y))) (((w.alloc o).setCell ⟨w.heap.size, pp, none⟩ (.int .u8 y.toNat)).drew.drew) := hback
    have hwz : IntKind.u8.wrap ((2 : Int) ^ qq) = (z.toNat : Int) := by rw [← hpw]; rfl
    have hfl : XS.flip L q = L.set pp y := by
      unfold XS.flip
      rw [← hm, ← hpp, ← hqq, List.getElem?_eq_getElem hpl, hy, hbp]
      congr 1
      show L[pp] ^^^ (1 <<< UInt8.ofNat qq) = L[pp] ^^^ z
      rw [hz]
      congr 1
      have : qq = 0 ∨ qq = 1 ∨ qq = 2 ∨ qq = 3 ∨ qq = 4 ∨ qq = 5 ∨ qq = 6 ∨ qq = 7 := by omega
      rcases this with h | h | h | h | h | h | h | h <;> subst h <;> decide
    rw [hfl]
    have HSET := Lib.hid (show x.net.set 0 (L.set pp y, true) = (L.set pp y, true) :: r by rw [hnet]; rfl)
    have HGL := Lib.hid (HX.out.rest.nt.lt g (by rw [hv]; rfl))
    have HV := Lib.hid hv
    clear h XT HO hnet hp0 hv hm hpp hqq hq256 hzn hz hy hbp hly hfl hcell hfr
    go_enter Tryz.func26, Tryz.ntmps26
    go_wp2_with fail
    have hwp : IntKind.i64.wrap (pp : Int) = (pp : Int) := IntWalk.i64_in _ (by omega)
    have htm : (m : Int).tmod 8 = (qq : Int) := by rw [Int.tmod_eq_emod_of_nonneg (by omega)]; exact e2
    have hwq : IntKind.i64.wrap (qq : Int) = (qq : Int) := IntWalk.i64_in _ (by omega)
    have hp1 : (0 : Int) ≤ pp := by omega
    have hp2 : (pp : Int) < L.length := by omega
    have hp3 : (pp : Int).toNat = pp := by omega
    have hq1 : (0 : Int) ≤ qq := by omega
    have hq3 : (qq : Int).toNat = qq := by omega
    have hc2 : (w.alloc o).drew.drew.cell? ⟨w.heap.size, pp, none⟩ = some (.int .u8 (bs L)[pp].toNat) := hc
    have hfz2 : (w.alloc o).drew.drew.frozen? ⟨w.heap.size, pp, none⟩ = false := hfz
    go_region_law (fail)
    have B8 := Lib.hid (((Below.refl w.heap.size w).alloc (Nat.le_refl _) o).setCell (p := ⟨w.heap.size, pp, none⟩) (Nat.le_refl _) (.int .u8 y.toNat)).drew.drew
    clear hc hfz hc2 hfz2 hwz hxor hpw hwp htm hwq hp1 hp2 hp3 hq1 hq3
    generalize (((w.alloc o).setCell ⟨w.heap.size, pp, none⟩ (.int .u8 y.toNat)).drew.drew) = w8 at *
    have X8 := Lib.hid (HX.out.below B8.out)
    have HO8 := X8.out.rest.nt
    rw [HV.out] at HO8
    have ST := Lib.hid (own2_store pk0 pk1 HO8 0 (L.set pp y, true))
    have fz80 := HO8.frozenAt 0
    have fz81 := HO8.frozenAt 1
    have d80 : w8.cell? ⟨g, 0, none⟩ = some (.string (bs L)) := (B8.out.cell (World.block_lt_of_cell? w _ d0)).trans d0
    have d81 : w8.cell? ⟨g, 1, none⟩ = some (.bool false) := (B8.out.cell (World.block_lt_of_cell? w _ d1)).trans d1
    simp only [Nat.zero_mul, Nat.zero_add] at ST
    have CH := Lib.hid (show Chg w8 ((w8.setCell ⟨g, 0, none⟩ (.string (bs (L.set pp y)))).setCell ⟨g, 1, none⟩ (.bool true)) (fun b => A.vn.ownBlock = some b) from
      ((Chg.refl w8 _).set ⟨g, 0, none⟩ (.inl (by rw [HV.out]; rfl)) _).set ⟨g, 1, none⟩ (.inl (by rw [HV.out]; rfl)) _)
    clear HO8 B8
    go_wp2_with fail
    go_returns
    refine ⟨rfl, A, X8.out.netSet (net' := (L.set pp y, true) :: r) CH.out ?_⟩
    have := ST.out
    rw [HV.out]
    rw [HSET.out] at this
    have e : ((L.set pp y, true) :: r).length = x.net.length := by rw [hlen]; rfl
    rw [e]
    exact this
end
end Go.Proofs.YtdpoalbbcmkceaaGreatDoor
/- The cells of a struct of four. -/
namespace Go.Proofs.YtdpoalbbcmkceaaGreatDoor
open Go.RowKit
theorem cells4x {v : World} {g : Nat} {x0 x1 x2 x3 : Value} {t : TypeId} (h : v.heap[g]? = some (.cells #[x0, x1, x2, x3] t (0, 0))) :
    (v.cell? ⟨g, 0, none⟩ = some x0 ∧ v.cell? ⟨g, 1, none⟩ = some x1 ∧ v.cell? ⟨g, 2, none⟩ = some x2 ∧ v.cell? ⟨g, 3, none⟩ = some x3) ∧ ∀ k, v.frozen? ⟨g, k, none⟩ = false := by
  refine ⟨⟨?_, ?_, ?_, ?_⟩, fun k => ?_⟩ <;> simp [World.cell?, World.frozen?, h]
end Go.Proofs.YtdpoalbbcmkceaaGreatDoor
