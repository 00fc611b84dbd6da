/- Texts of one proof, one behind the other: XferAnsd, XferCame, XferNewNo, Moved. -/
import Derived.Test.YtppkeophochgiaaGreatDoorB31
import Derived.Test.YtppkeophochgiaaGreatDoorB41
import Derived.Test.YtppkeophochgiaaGreatDoorB38
import Derived.Test.YtppkeophochgiaaGreatDoorB40
import Derived.Test.YtppkeophochgiaaGreatDoorB37
import Derived.Laws.StructEq
/- Contract of a transfer: answered: a frame that is no answer to what was asked; one that is, of lines; one that is, of a file. -/
namespace Go.Proofs.YtppkeophochgiaaGreatDoor
open Go.RowKit
set_option linter.unusedVariables false
theorem bs_tokX : bs tokX = ⟨#[120]⟩ := by unfold bs tokX; rfl
theorem adC_ok {n : Nat} (h : n ≠ 0) : adC (gmap n) tokX (n : Int) = 0 := by unfold adC; rw [gmap_glk, if_neg h, if_pos rfl]
theorem adC_no {n : Nat} {e : Int} (h : e ≠ n) : adC (gmap n) tokX e ≠ 0 := by
  unfold adC
  rw [gmap_glk]
  by_cases h0 : n = 0
  · rw [if_pos h0]; decide
  · rw [if_neg h0, if_neg (fun e => h e.symm)]; decide
theorem gadmit_q {E : Nat → Addr} {w : World} {gb mb n : Nat} {m : GM} (k : List UInt8) (x : Int) (h : GtAt w gb mb n m) (hk : k.length ≤ 1000000000) (h6 : Has E w 6) (h11 : Has E w 11) :
    Calls Tryz.prog 119 #[.pointer (some ⟨gb, 0, none⟩), .string (bs k), .int .i64 x] w fun e w' => e = .returned (ev E (adC m k x)) ∧ w' = w :=
  (gadmit_any k x h hk h6 h11).mono fun e w' ⟨h1, h2⟩ => ⟨h1, h2.symm⟩
section
variable {E : Nat → Addr} {w0 w : World} {xb : Nat} {A : XA} {x : XS}
set_option maxRecDepth 100000 in
set_option maxHeartbeats 12800000 in
theorem xanswered_dn (kI fe fq : Int) (s : ByteArray) (h : XAt w0 w xb A x) (hd : x.dn = true) :
    Calls Tryz.prog 195 #[.pointer (some ⟨xb, 0, none⟩), .agg #[.int .u8 kI, .int .i64 fe, .int .i64 fq, .string s]] w fun e w' => e = .returned (.tuple #[]) ∧ ∃ A', XAt w0 w' xb A' x := by
  have HX := Lib.hid h
  have c15 := h.cells.cs.2.2.2.2.2.2.2.2.2.2.2.2.2.2.2
  rw [hd] at c15
  have hxb := lt_of_block h.cells
  clear h hd
  have B1 := Lib.hid (wb_alloc w (.cells #[.int .u8 kI, .int .i64 fe, .int .i64 fq, .string s] 248))
  go_enter Tryz.func195, Tryz.ntmps195
  go_wp2_with fail
  go_quiet (fail)
  go_wp2_with fail
  go_returns
  exact ⟨rfl, A, HX.out.below (below_drewN B1.out _)⟩
set_option maxRecDepth 100000 in
set_option maxHeartbeats 12800000 in
theorem xanswered_seq (kI fe fq : Int) (s : ByteArray) (h : XAt w0 w xb A x) (hd : x.dn = false) (hk : x.ask.k ≠ 0) (hq : fq ≠ x.ask.q) :
    Calls Tryz.prog 195 #[.pointer (some ⟨xb, 0, none⟩), .agg #[.int .u8 kI, .int .i64 fe, .int .i64 fq, .string s]] w fun e w' => e = .returned (.tuple #[]) ∧ ∃ A', XAt w0 w' xb A' x := by
  have HX := Lib.hid h
  have c15 := h.cells.cs.2.2.2.2.2.2.2.2.2.2.2.2.2.2.2
  have c6 := h.cells.cs.2.2.2.2.2.2.1
  have c8 := h.cells.cs.2.2.2.2.2.2.2.2.1
  rw [hd] at c15
  have hxb := lt_of_block h.cells
  have hkk : (((x.ask.k.toNat : Nat) : Int) == 0) = false := by
    rw [beq_eq_false_iff_ne]
    intro e
    exact hk (UInt8.toNat_inj.1 (by simpa using e))
  have hqq : (fq != x.ask.q) = true := by simpa using hq
  generalize ((x.ask.k.toNat : Nat) : Int) = kA at *
  generalize x.ask.q = qA at *
  clear h hd hk hq
  have B1 := Lib.hid (wb_alloc w (.cells #[.int .u8 kI, .int .i64 fe, .int .i64 fq, .string s] 248))
  have q0 : ∀ w, (binOp .eql 5 (.int .u8 kA) (.int .u8 0)).run Tryz.prog w = .ok (.bool false) w := by intro w; simp [go_sem, hkk]
  have q1 : ∀ w, (binOp .neq 3 (.int .i64 fq) (.int .i64 qA)).run Tryz.prog w = .ok (.bool true) w := by intro w; simp [go_sem, hqq]
  go_enter Tryz.func195, Tryz.ntmps195
  go_wp2_with fail
  go_quiet (fail)
  go_wp2_with fail
  go_returns
  exact ⟨rfl, A, HX.out.below (below_drewN B1.out _)⟩
set_option maxRecDepth 100000 in
set_option maxHeartbeats 12800000 in
theorem xanswered_old (kI fe fq : Int) (s : ByteArray) (h : XAt w0 w xb A x) (hd : x.dn = false) (hk : x.ask.k ≠ 0) (hq : fq = x.ask.q) (he : fe ≠ x.ge) (h6 : Has E w0 6) (h11 : Has E w0 11) :
    Calls Tryz.prog 195 #[.pointer (some ⟨xb, 0, none⟩), .agg #[.int .u8 kI, .int .i64 fe, .int .i64 fq, .string s]] w fun e w' => e = .returned (.tuple #[]) ∧ ∃ A', XAt w0 w' xb A' x := by
  have HX := Lib.hid h
  have c15 := h.cells.cs.2.2.2.2.2.2.2.2.2.2.2.2.2.2.2
  have c2 := h.cells.cs.2.2.1
  have c6 := h.cells.cs.2.2.2.2.2.2.1
  have c8 := h.cells.cs.2.2.2.2.2.2.2.2.1
  rw [hd] at c15
  have hxb := lt_of_block h.cells
  have hkk : (((x.ask.k.toNat : Nat) : Int) == 0) = false := by
    rw [beq_eq_false_iff_ne]
    intro e
    exact hk (UInt8.toNat_inj.1 (by simpa using e))
  subst hq
  have B1 := Lib.hid (wb_alloc w (.cells #[.int .u8 kI, .int .i64 fe, .int .i64 x.ask.q, .string s] 248))
  have AD := Lib.hid (fun n => gadmit_q (E := E) (w := (w.alloc (.cells #[.int .u8 kI, .int .i64 fe, .int .i64 x.ask.q, .string s] 248)).drewN n) tokX fe (h.below (below_drewN B1.out n)).rest.gt (by decide) (h6.below (h.below (below_drewN B1.out n)).rest.bel) (h11.below (h.below (below_drewN B1.out n)).rest.bel))
  rw [ev_pos E (adC_no he), bs_tokX] at AD
  generalize ((x.ask.k.toNat : Nat) : Int) = kA at *
  generalize x.ask.q = qA at *
  generalize adC (gmap x.ge) tokX fe = cc at *
  clear h hd hk h6 h11 he
  have q0 : ∀ w, (binOp .eql 5 (.int .u8 kA) (.int .u8 0)).run Tryz.prog w = .ok (.bool false) w := by intro w; simp [go_sem, hkk]
  have q1 : ∀ w, (binOp .neq 3 (.int .i64 qA) (.int .i64 qA)).run Tryz.prog w = .ok (.bool false) w := by intro w; simp [go_sem]
  go_enter Tryz.func195, Tryz.ntmps195
  go_wp2_with fail
  go_quiet ((go_at_call 119; exact Calls.quiet_of_same (AD.out _)))
  go_wp2_with fail
  go_returns
  exact ⟨rfl, A, HX.out.below (below_drewN B1.out _)⟩
set_option maxRecDepth 100000 in
set_option maxHeartbeats 12800000 in
theorem xanswered_lines (fe fq : Int) (s : ByteArray) (y1 y2 : XS) (h : XAt w0 w xb A x) (ok : FlowOk x.W x.L x.T x.G) (hd : x.dn = false) (hk : x.ask.k ≠ 0) (hq : fq = x.ask.q) (hg : x.ge ≠ 0) (he : fe = x.ge)
    (LI : ∀ w' A', XAt w0 w' xb A' x.good → Calls Tryz.prog 229 #[.pointer (some ⟨xb, 0, none⟩), .string s] w' fun e w'' => e = .returned (.tuple #[]) ∧ ∃ A'', XAt w0 w'' xb A'' y1)
    (NX : ∀ w' A', XAt w0 w' xb A' y1 → Calls Tryz.prog 189 #[.pointer (some ⟨xb, 0, none⟩)] w' fun e w'' => e = .returned (.tuple #[]) ∧ ∃ A'', XAt w0 w'' xb A'' y2) (h6 : Has E w0 6) (h11 : Has E w0 11) :
    Calls Tryz.prog 195 #[.pointer (some ⟨xb, 0, none⟩), .agg #[.int .u8 109, .int .i64 fe, .int .i64 fq, .string s]] w fun e w' => e = .returned (.tuple #[]) ∧ ∃ A', XAt w0 w' xb A' y2 := by
  have HX := Lib.hid h
  have c15 := h.cells.cs.2.2.2.2.2.2.2.2.2.2.2.2.2.2.2
  have c2 := h.cells.cs.2.2.1
  have c6 := h.cells.cs.2.2.2.2.2.2.1
  have c8 := h.cells.cs.2.2.2.2.2.2.2.2.1
  rw [hd] at c15
  have hxb := lt_of_block h.cells
  have hkk : (((x.ask.k.toNat : Nat) : Int) == 0) = false := by
    rw [beq_eq_false_iff_ne]
    intro e
    exact hk (UInt8.toNat_inj.1 (by simpa using e))
  subst hq he
  have B1 := Lib.hid (wb_alloc w (.cells #[.int .u8 109, .int .i64 x.ge, .int .i64 x.ask.q, .string s] 248))
  have N1 := Lib.hid (heap_alloc_new w (.cells #[.int .u8 109, .int .i64 x.ge, .int .i64 x.ask.q, .string s] 248))
  have AD := Lib.hid (fun n => gadmit_q (E := E) (w := (w.alloc (.cells #[.int .u8 109, .int .i64 x.ge, .int .i64 x.ask.q, .string s] 248)).drewN n) tokX x.ge (h.below (below_drewN B1.out n)).rest.gt (by decide) (h6.below (h.below (below_drewN B1.out n)).rest.bel) (h11.below (h.below (below_drewN B1.out n)).rest.bel))
  rw [adC_ok hg, ev_zero, bs_tokX] at AD
  generalize ((x.ask.k.toNat : Nat) : Int) = kA at *
  generalize x.ask.q = qA at *
  have q0 : ∀ w, (binOp .eql 5 (.int .u8 kA) (.int .u8 0)).run Tryz.prog w = .ok (.bool false) w := by intro w; simp [go_sem, hkk]
  have q1 : ∀ w, (binOp .neq 3 (.int .i64 qA) (.int .i64 qA)).run Tryz.prog w = .ok (.bool false) w := by intro w; simp [go_sem]
  have LIH := Lib.hid LI
  have NXH := Lib.hid NX
  have OK := Lib.hid ok
  clear h hd hk h6 h11 LI NX ok
  generalize x.ge = gI at *
  go_enter Tryz.func195, Tryz.ntmps195
  go_wp2_with fail
  go_quiet ((go_at_call 119; exact Calls.quiet_of_same (AD.out _)))
  have X2 := Lib.hid (HX.out.below (below_drewN B1.out nq))
  have N2 := Lib.hid (show ((w.alloc (.cells #[.int .u8 109, .int .i64 gI, .int .i64 qA, .string s] 248)).drewN nq).heap[w.heap.size]? = some (.cells #[.int .u8 109, .int .i64 gI, .int .i64 qA, .string s] 248 (0, 0)) from N1.out)
  clear AD q0 q1 c2 c6 c8 c15 B1 N1
  generalize (w.alloc (.cells #[.int .u8 109, .int .i64 gI, .int .i64 qA, .string s] 248)).drewN nq = w2 at *
  have c11 := X2.out.cells.cs.2.2.2.2.2.2.2.2.2.2.2.1
  go_wp2_with fail
  refine (good_is A.fb x.W x.L x.T x.G _ X2.out.fl OK.out).mono ?_
  rintro e w3 ⟨rfl, hf, hg3⟩
  have X3 : XAt w0 w3 xb A x.good := X2.out.flow ⟨hg3.os, hg3.tape, hg3.output, hg3.size, fun k hk hn => hg3.block k hk (fun e => hn (by cases e; rfl))⟩ hf
  have N3 := (hg3.block w.heap.size (lt_of_block N2.out) (fun e => cells_ne N2.out X2.out.fl (by decide) (Option.some.inj e))).trans N2.out
  have L3 := Lib.hid (LIH.out w3 A X3)
  obtain ⟨⟨d0, d1, d2, d3⟩, _⟩ := cells4x N3
  clear hf hg3 X2 X3 N2 LIH c11
  go_wp2_with fail
  refine L3.out.mono ?_
  rintro e w4 ⟨rfl, A4, hA4⟩
  have N4 := Lib.hid (NXH.out w4 A4 hA4)
  clear hA4 L3 NXH d0 d1 d2 d3 N3
  go_wp2_with fail
  refine N4.out.mono ?_
  rintro e w5 ⟨rfl, A5, hA5⟩
  have HA := Lib.hid hA5
  clear hA5 N4
  go_wp2_with fail
  go_returns
  exact ⟨rfl, A5, HA.out⟩
set_option maxRecDepth 100000 in
set_option maxHeartbeats 12800000 in
theorem xanswered_file (kI fe fq : Int) (s : ByteArray) (y1 y2 : XS) (h : XAt w0 w xb A x) (ok : FlowOk x.W x.L x.T x.G) (hkI : (kI == 109) = false) (hd : x.dn = false) (hk : x.ask.k ≠ 0) (hq : fq = x.ask.q) (hg : x.ge ≠ 0) (he : fe = x.ge)
    (LI : ∀ w' A', XAt w0 w' xb A' x.good → Calls Tryz.prog 230 #[.pointer (some ⟨xb, 0, none⟩), .string s] w' fun e w'' => e = .returned (.tuple #[]) ∧ ∃ A'', XAt w0 w'' xb A'' y1)
    (NX : ∀ w' A', XAt w0 w' xb A' y1 → Calls Tryz.prog 189 #[.pointer (some ⟨xb, 0, none⟩)] w' fun e w'' => e = .returned (.tuple #[]) ∧ ∃ A'', XAt w0 w'' xb A'' y2) (h6 : Has E w0 6) (h11 : Has E w0 11) :
    Calls Tryz.prog 195 #[.pointer (some ⟨xb, 0, none⟩), .agg #[.int .u8 kI, .int .i64 fe, .int .i64 fq, .string s]] w fun e w' => e = .returned (.tuple #[]) ∧ ∃ A', XAt w0 w' xb A' y2 := by
  have HX := Lib.hid h
  have c15 := h.cells.cs.2.2.2.2.2.2.2.2.2.2.2.2.2.2.2
  have c2 := h.cells.cs.2.2.1
  have c6 := h.cells.cs.2.2.2.2.2.2.1
  have c8 := h.cells.cs.2.2.2.2.2.2.2.2.1
  rw [hd] at c15
  have hxb := lt_of_block h.cells
  have hkk : (((x.ask.k.toNat : Nat) : Int) == 0) = false := by
    rw [beq_eq_false_iff_ne]
    intro e
    exact hk (UInt8.toNat_inj.1 (by simpa using e))
  subst hq he
  have B1 := Lib.hid (wb_alloc w (.cells #[.int .u8 kI, .int .i64 x.ge, .int .i64 x.ask.q, .string s] 248))
  have N1 := Lib.hid (heap_alloc_new w (.cells #[.int .u8 kI, .int .i64 x.ge, .int .i64 x.ask.q, .string s] 248))
  have AD := Lib.hid (fun n => gadmit_q (E := E) (w := (w.alloc (.cells #[.int .u8 kI, .int .i64 x.ge, .int .i64 x.ask.q, .string s] 248)).drewN n) tokX x.ge (h.below (below_drewN B1.out n)).rest.gt (by decide) (h6.below (h.below (below_drewN B1.out n)).rest.bel) (h11.below (h.below (below_drewN B1.out n)).rest.bel))
  rw [adC_ok hg, ev_zero, bs_tokX] at AD
  generalize ((x.ask.k.toNat : Nat) : Int) = kA at *
  generalize x.ask.q = qA at *
  have q0 : ∀ w, (binOp .eql 5 (.int .u8 kA) (.int .u8 0)).run Tryz.prog w = .ok (.bool false) w := by intro w; simp [go_sem, hkk]
  have q1 : ∀ w, (binOp .neq 3 (.int .i64 qA) (.int .i64 qA)).run Tryz.prog w = .ok (.bool false) w := by intro w; simp [go_sem]
  have LIH := Lib.hid LI
  have NXH := Lib.hid NX
  have OK := Lib.hid ok
  clear h hd hk h6 h11 LI NX ok
  generalize x.ge = gI at *
  go_enter Tryz.func195, Tryz.ntmps195
  go_wp2_with fail
  go_quiet ((go_at_call 119; exact Calls.quiet_of_same (AD.out _)))
  have X2 := Lib.hid (HX.out.below (below_drewN B1.out nq))
  have N2 := Lib.hid (show ((w.alloc (.cells #[.int .u8 kI, .int .i64 gI, .int .i64 qA, .string s] 248)).drewN nq).heap[w.heap.size]? = some (.cells #[.int .u8 kI, .int .i64 gI, .int .i64 qA, .string s] 248 (0, 0)) from N1.out)
  clear AD q0 q1 c2 c6 c8 c15 B1 N1
  generalize (w.alloc (.cells #[.int .u8 kI, .int .i64 gI, .int .i64 qA, .string s] 248)).drewN nq = w2 at *
  have c11 := X2.out.cells.cs.2.2.2.2.2.2.2.2.2.2.2.1
  go_wp2_with fail
  refine (good_is A.fb x.W x.L x.T x.G _ X2.out.fl OK.out).mono ?_
  rintro e w3 ⟨rfl, hf, hg3⟩
  have X3 : XAt w0 w3 xb A x.good := X2.out.flow ⟨hg3.os, hg3.tape, hg3.output, hg3.size, fun k hk hn => hg3.block k hk (fun e => hn (by cases e; rfl))⟩ hf
  have N3 := (hg3.block w.heap.size (lt_of_block N2.out) (fun e => cells_ne N2.out X2.out.fl (by decide) (Option.some.inj e))).trans N2.out
  have L3 := Lib.hid (LIH.out w3 A X3)
  obtain ⟨⟨d0, d1, d2, d3⟩, _⟩ := cells4x N3
  clear hf hg3 X2 X3 N2 LIH c11
  go_wp2_with fail
  refine L3.out.mono ?_
  rintro e w4 ⟨rfl, A4, hA4⟩
  have N4 := Lib.hid (NXH.out w4 A4 hA4)
  clear hA4 L3 NXH d0 d1 d2 d3 N3
  go_wp2_with fail
  refine N4.out.mono ?_
  rintro e w5 ⟨rfl, A5, hA5⟩
  have HA := Lib.hid hA5
  clear hA5 N4
  go_wp2_with fail
  go_returns
  exact ⟨rfl, A5, HA.out⟩
end
end Go.Proofs.YtppkeophochgiaaGreatDoor
/- Contract of a transfer: come, where all holds that is to hold. -/
namespace Go.Proofs.YtppkeophochgiaaGreatDoor
open Go.RowKit
set_option linter.unusedVariables false
/-- the errors' cells -/
structure XErr (E : Nat → Addr) (w : World) : Prop where
  e1 : Has E w 1
  e2 : Has E w 2
  e3 : Has E w 3
  e4 : Has E w 4
  e5 : Has E w 5
  e6 : Has E w 6
  e8 : Has E w 8
  e9 : Has E w 9
  e10 : Has E w 10
  e11 : Has E w 11
theorem XErr.below {E : Nat → Addr} {w w' : World} (h : XErr E w) (b : Below w.heap.size w w') : XErr E w' := ⟨h.e1.below b, h.e2.below b, h.e3.below b, h.e4.below b, h.e5.below b, h.e6.below b, h.e8.below b, h.e9.below b, h.e10.below b, h.e11.below b⟩
theorem frT_short {f : PFr} (h : f.d.length ≤ 20000) : (frT f).length ≤ 30000 := by
  have a := num_len f.e.toNat
  have b := num_len f.q.toNat
  have c := num_len f.d.length
  rw [frT_is, frB_is]
  simp only [List.length_append, List.length_cons, lowL_len]; omega
theorem flip_len (s : List UInt8) (q : Nat) : (XS.flip s q).length = s.length := by unfold XS.flip; simp
theorem pk_len {t0 : List PF} {x : XS} (h : XInv t0 x) {p : List UInt8 × Bool} (hp : p ∈ x.net) : 0 < p.1.length ∧ p.1.length ≤ 100000 := by
  obtain ⟨u, e, q, b, hu, h1, h2, _, h3⟩ := h.net p hp
  have hg := h.g2
  have hc := frm_ok h.fr (b := b) hu (show e ≤ 2147483648 by omega) h2
  have hd := (frC_zero hc).2.2.2
  have hl := frT_short hd
  have hl4 : 0 < (frT (xfm x.fr b e q u)).length := by rw [frT_is, List.length_append, lowL_len]; omega
  rcases h3 with h3 | ⟨_, k, h3⟩
  · rw [h3]; exact ⟨hl4, Nat.le_trans hl (by omega)⟩
  · rw [h3, flip_len]; exact ⟨hl4, by omega⟩
section
variable {E : Nat → Addr} {w0 w : World} {xb : Nat} {A : XA} {x : XS} {t0 : List PF}
/-- the source answers -/
theorem xanswer_any (hI : XInv t0 x) (h : XAt w0 w xb A x) (hn : x.net.length ≤ 1000000000) {u : XW} (hu : u.ok x.fr) (e q : Nat) (HE : XErr E w0) :
    Calls Tryz.prog 194 #[.pointer (some ⟨xb, 0, none⟩), .agg #[.int .u8 (xrq e q u).k.toNat, .int .i64 (xrq e q u).e, .int .i64 (xrq e q u).q, .string (bs (xrq e q u).d)]] w fun e' w' => e' = .returned (.tuple #[]) ∧ ∃ A', XAt w0 w' xb A' (x.answer (xrq e q u)) := by
  rw [answer_is hI.fr hu]
  cases u with
  | all => exact xansl_any e q [] h hI.fr.wf hn (lines_sum _) HE.e2 HE.e4 HE.e5 HE.e8 HE.e9
  | one n o d =>
    obtain ⟨h1, h2⟩ := hu
    have hnl := hI.fr.name h1
    have hd := hI.fr.len _ h1
    simp only [] at hnl hd
    have hsl := sgT_len h2
    have hdl := dtL_len h2 hd
    have hok := opO_ok h2 hd
    obtain ⟨p1, p2, p3, q1, q2, q3⟩ := two_read (a := n) (b := sgT o) (by omega) (by omega)
    have htl := two_len n (sgT o)
    have hnn := num_len (sgT o).length
    have := xansg_any (E := E) e q (XS.two n (sgT o)) n (sgT o) (num (sgT o).length ++ sgT o) [] d 0 0 (blks (sizeN o.length) o) (sizeN o.length) (opO o d) h hI.fr.wf hn (by omega) (by rw [List.length_append]; omega) (by omega) p1 p2 p3 q1 q2 q3 rEnd_nil (sgT_read h2).1 (sgT_read h2).2 (fgetL_of hI.fr.wf.sorted h1) (by omega) rfl (by rw [(opO_dt h2 hd).1]) (by have := hok.1; omega) (opO_short h2 hd).2 (by omega) (by omega) HE.e1 HE.e2 HE.e3 HE.e4 HE.e8
    refine this.mono ?_
    rintro e' w' ⟨rfl, A', hA⟩
    refine ⟨rfl, A', ?_⟩
    have e2 : xan x.fr e q (.one n o d) = ⟨111, e, q, num n.length ++ (n ++ (num (dtL (opO o d)).length ++ dtL (opO o d)))⟩ := by
      show (⟨111, e, q, XS.two n (dtL (opO o d))⟩ : PFr) = _
      unfold XS.two
      rw [List.append_assoc]
    rw [e2]
    exact hA
/-- the destination takes what comes -/
theorem xanswered_any (hI : XInv t0 x) (h : XAt w0 w xb A x) (hn : x.net.length ≤ 1000000000) {u : XW} {e q : Nat} (hu : u.ok x.fr) (hr : e = x.ge → q < x.sq ∧ (q + 1 = x.sq → x.dn = false → u = x.cur)) (HE : XErr E w0) :
    Calls Tryz.prog 195 #[.pointer (some ⟨xb, 0, none⟩), .agg #[.int .u8 (xan x.fr e q u).k.toNat, .int .i64 (xan x.fr e q u).e, .int .i64 (xan x.fr e q u).q, .string (bs (xan x.fr e q u).d)]] w fun e' w' => e' = .returned (.tuple #[]) ∧ ∃ A', XAt w0 w' xb A' (x.answered (xan x.fr e q u)) := by
  rcases answered_is hI hr with ⟨hc, e2⟩ | ⟨hd, hk, hq, hg, he, e6, e7, e8, e2⟩
  · rw [e2]
    by_cases hd : x.dn = true
    · exact xanswered_dn _ _ _ _ h hd
    · have hd' : x.dn = false := by simpa using hd
      have hk : x.ask.k ≠ 0 := by rw [(hI.ask hd').2]; exact xrq_k _ _ _
      by_cases hq : (xan x.fr e q u).q = x.ask.q
      · have he : (xan x.fr e q u).e ≠ x.ge := by
          rcases hc with h1 | h1 | h1 | h1 | h1
          · exact absurd h1 hd
          · exact absurd h1 hk
          · exact absurd hq h1
          · have := hI.g1; omega
          · exact h1
        exact xanswered_old _ _ _ _ h hd' hk hq he HE.e6 HE.e11
      · exact xanswered_seq _ _ _ _ h hd' hk hq
  · rw [e2]
    clear e2 hr hu
    subst e6 e7 e8
    obtain ⟨m1, m2, m3, m4, m5⟩ := taken_inv hI hd
    have hfew := hI.fr.wf.few
    have hln : LWF x.took.ln := by
      cases hkn : x.took.kn with
      | true => rw [m1.ln hkn]; exact m1.fr.wf.lines
      | false => rw [m1.l0 hkn]; exact ⟨by simp, by simp, List.Pairwise.nil⟩
    have NX : ∀ w' A', XAt w0 w' xb A' x.took → _ := fun w' A' hA => xnext_any (E := E) hA (by rw [m3]; exact hn) (by have := m1.sm; rw [m5] at this; omega) (fun n => m1.tt.old4 n) hln m1.tt.wf HE.e2 HE.e4 HE.e5 HE.e8 HE.e9
    cases hkn : x.kn with
    | false =>
      have hcur := cur_all hkn
      have tk : x.took = XS.listed (flText (x.fr.map PF.line)) x.good := by unfold XS.took; rw [hcur]; rfl
      have LI : ∀ w' A', XAt w0 w' xb A' x.good → _ := fun w' A' hA => xlisted_any (E := E) (flText (x.fr.map PF.line)) hA (by rw [readLn_text _ hI.fr.wf.lines (lines_sum _)]) (by have := lText_len hI.fr.wf.lines; omega) HE.e1 HE.e2 HE.e5 HE.e8 HE.e9
      rw [← tk] at LI
      rw [hcur] at hq he ⊢
      exact xanswered_lines _ _ _ x.took x.took.next h hI.flow hd hk hq hg he LI NX HE.e6 HE.e11
    | true =>
      obtain ⟨f0, hf0, hno, hcur, ht⟩ := took_one hI hd hkn
      have hnl := hI.fr.name hf0
      have hdl := hI.fr.len _ hf0
      have hol := hI.tt.old (x := x) f0.n
      have hlx := hI.ln hkn
      have htl := dtL_len hol hdl
      obtain ⟨p1, p2, p3, q1, q2, q3⟩ := two_read (a := f0.n) (b := dtL (opO (x.old f0.n) f0.d)) (by omega) (by omega)
      have hml : f0.line ∈ x.ln := by rw [hlx]; exact List.mem_map_of_mem hf0
      obtain ⟨k, hk2, hix, hkl⟩ : ∃ k : Nat, ∃ hk : k < x.ln.length, ixI 0 (fun y : PL => y.n == f0.n) x.ln = k ∧ x.ln[k]'hk = f0.line := by
        rcases ixI_spec (fun y : PL => y.n == f0.n) x.ln with ⟨_, hall⟩ | ⟨k, hk, h1, h2, _⟩
        · exact absurd (hall _ hml) (by simp [PF.line])
        · refine ⟨k, hk, h1, ?_⟩
          have hm := List.getElem_mem hk
          refine Srt.inj (l := x.ln) (by rw [hlx]; exact hI.fr.wf.lines.sorted) hm hml ?_
          simpa [PF.line] using h2
      have htw := two_len f0.n (dtL (opO (x.old f0.n) f0.d))
      have hnn := num_len (dtL (opO (x.old f0.n) f0.d)).length
      have hLW : LWF x.ln := by rw [hlx]; exact hI.fr.wf.lines
      have GI : ∀ w' A', XAt w0 w' xb A' x.good → _ := fun w' A' hA => xgiven_any (x := x.good) (E := E) (XS.two f0.n (dtL (opO (x.old f0.n) f0.d))) f0.n (dtL (opO (x.old f0.n) f0.d)) (num (dtL (opO (x.old f0.n) f0.d)).length ++ dtL (opO (x.old f0.n) f0.d)) [] 0 0 (opO (x.old f0.n) f0.d) k hk2 hA (by have := hI.fl hd; have := hI.s2; show x.fu.length ≤ _; omega) hix (by omega) (by rw [List.length_append]; omega) (by omega) p1 p2 p3 q1 q2 q3 rEnd_nil (opO_read hol hdl) (by omega) (by show (x.old f0.n).length ≤ _; omega) hI.tt.wf (by show x.ln.length ≤ _; rw [hlx, List.length_map]; omega)
        (fun hw => by
          have hw : (whC (x.old f0.n) (sizeN (x.old f0.n).length) (opO (x.old f0.n) f0.d) (x.ln[k]'hk2).N (x.ln[k]'hk2).S).1 = 0 := hw
          show FWF (fputL x.room f0.n (whL (x.old f0.n) (sizeN (x.old f0.n).length) (opO (x.old f0.n) f0.d) (x.ln[k]'hk2).N (x.ln[k]'hk2).S)) ∧ (putF x.room f0.n (whL (x.old f0.n) (sizeN (x.old f0.n).length) (opO (x.old f0.n) f0.d) (x.ln[k]'hk2).N (x.ln[k]'hk2).S)).1 = 0 ∧ (whL (x.old f0.n) (sizeN (x.old f0.n).length) (opO (x.old f0.n) f0.d) (x.ln[k]'hk2).N (x.ln[k]'hk2).S).length ≤ 4000
          rw [hkl] at hw ⊢
          rcases wh_cases (x.old f0.n) (sizeN (x.old f0.n).length) (opO (x.old f0.n) f0.d) f0.line.N f0.line.S with hw2 | ⟨_, v1, _⟩
          · exact absurd hw hw2
          · have l1 : (whL (x.old f0.n) (sizeN (x.old f0.n).length) (opO (x.old f0.n) f0.d) f0.line.N f0.line.S).length ≤ 4000 := by
              have : ((whL (x.old f0.n) (sizeN (x.old f0.n).length) (opO (x.old f0.n) f0.d) f0.line.N f0.line.S).length : Int) = (f0.d.length : Nat) := v1
              omega
            obtain ⟨r1, r2⟩ := room_put (x := x) hI.tt.wf hLW ⟨f0.line, hml, rfl⟩ l1
            exact ⟨r1, r2, l1⟩) HE.e1 HE.e2 HE.e3 HE.e4 HE.e5 HE.e6 HE.e8 HE.e9 HE.e10
      have hkl' : (x.good.ln[k]'hk2) = f0.line := hkl
      rw [hkl', ← ht] at GI
      rw [hcur] at hq he ⊢
      exact xanswered_file _ _ _ _ x.took x.took.next h hI.flow (by show ((((111 : UInt8).toNat : Nat) : Int) == 109) = false; decide) hd hk hq hg he GI NX HE.e6 HE.e11
theorem xcome_any (hI : XInv t0 x) (k : Nat) (h : XAt w0 w xb A x) (hk : k < x.net.length) (hn : x.net.length ≤ 1000000000) (HE : XErr E w0) :
    Calls Tryz.prog 158 #[.pointer (some ⟨xb, 0, none⟩), .int .i64 k] w fun e w' => e = .returned (.tuple #[]) ∧ ∃ A', XAt w0 w' xb A' (x.come k) := by
  have hs := (pk_len hI (List.getElem_mem hk)).2
  have hy := erase_inv hI k
  have hyn : ({ x with net := x.net.eraseIdx k } : XS).net.length ≤ 1000000000 := by
    show (x.net.eraseIdx k).length ≤ _
    rw [List.length_eraseIdx]
    split <;> omega
  cases came hI k hk with
  | bad hb he => rw [he]; exact xcome_bad k h hk hn hs hb HE.e1 HE.e2 HE.e4 HE.e10
  | req u e q hu h1 h2 hr hb he hp =>
    rw [he]
    have hb' : decF (x.net[k]'hk).1 = (⟨(xrq e q u).k, (xrq e q u).e, (xrq e q u).q, (xrq e q u).d⟩, 0) := hb
    have HC : ∀ w' A', XAt w0 w' xb A' { x with net := x.net.eraseIdx k } → _ := fun w' A' hA => xanswer_any (E := E) hy hA hyn (u := u) hu e q HE
    rcases rq_kind e q u with hk8 | hk3
    · exact xcome_list k h hk hn hs _ _ _ _ _ hb' hk8 HC HE.e1 HE.e2 HE.e4 HE.e10
    · exact xcome_file k h hk hn hs _ _ _ _ _ hb' hk3 HC HE.e1 HE.e2 HE.e4 HE.e10
  | old u e q hu h1 h2 hr hb hc he =>
    have e1 : x.come k = XS.answered (xan x.fr e q u) { x with net := x.net.eraseIdx k } := come_an hk hb (an_kind _ e q u)
    rw [e1]
    have hb' : decF (x.net[k]'hk).1 = (⟨(xan x.fr e q u).k, (xan x.fr e q u).e, (xan x.fr e q u).q, (xan x.fr e q u).d⟩, 0) := hb
    have hkk := an_kind x.fr e q u
    simp only [not_or] at hkk
    exact xcome_dst k h hk hn hs _ _ _ _ _ hb' hkk.1 hkk.2 (fun w' A' hA => xanswered_any (E := E) hy hA hyn (u := u) hu hr HE) HE.e1 HE.e2 HE.e4 HE.e10
  | now hd ha hq hg he1 hb he =>
    have e1 : x.come k = XS.answered (xan x.fr x.ge (x.sq - 1) x.cur) { x with net := x.net.eraseIdx k } := come_an hk hb (an_kind _ _ _ _)
    rw [e1]
    have hb' : decF (x.net[k]'hk).1 = (⟨(xan x.fr x.ge (x.sq - 1) x.cur).k, (xan x.fr x.ge (x.sq - 1) x.cur).e, (xan x.fr x.ge (x.sq - 1) x.cur).q, (xan x.fr x.ge (x.sq - 1) x.cur).d⟩, 0) := hb
    have hkk := an_kind x.fr x.ge (x.sq - 1) x.cur
    simp only [not_or] at hkk
    exact xcome_dst k h hk hn hs _ _ _ _ _ hb' hkk.1 hkk.2 (fun w' A' hA => xanswered_any (E := E) hy hA hyn (u := x.cur) (cur_ok hI.fr hI.tt hI.ln) (fun _ => ⟨by have := (hI.ask hd).1; show x.sq - 1 < x.sq; omega, fun _ _ => rfl⟩) HE) HE.e1 HE.e2 HE.e4 HE.e10
end
end Go.Proofs.YtppkeophochgiaaGreatDoor
/- Contract of a transfer's New: files that are not well. -/
namespace Go.Proofs.YtppkeophochgiaaGreatDoor
open Go.RowKit
set_option linter.unusedVariables false
end Go.Proofs.YtppkeophochgiaaGreatDoor
/- A statement's closed fact moved: a file comes to the other side. -/
namespace Go.Proofs.YtppkeophochgiaaGreatDoor
open Go.RowKit
set_option linter.unusedVariables false
section
variable {t0 : List PF} {x : XS}
end
/-- come's contract, of a transfer that was made well -/
theorem come_ok {E : Nat → Addr} {w0 : World} (xb : Nat) (t0 : List PF) (HE : XErr E w0) : ComeOk w0 xb t0 := fun x k w A hI h hk hn => xcome_any (E := E) hI k h hk hn HE
end Go.Proofs.YtppkeophochgiaaGreatDoor
