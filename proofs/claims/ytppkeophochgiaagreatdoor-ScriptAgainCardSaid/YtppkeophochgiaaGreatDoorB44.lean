/- Texts of one proof, one behind the other: Near, Alike, XferAll, ScrDo, ScrSx. -/
import Derived.Test.YtppkeophochgiaaGreatDoorB43
import Derived.Test.YtppkeophochgiaaGreatDoorB12
import Derived.Test.YtppkeophochgiaaGreatDoorB38
import Derived.Test.YtppkeophochgiaaGreatDoorB42
import Derived.Test.YtppkeophochgiaaGreatDoorB05
import Derived.OpenShut
import Derived.Test.YtppkeophochgiaaGreatDoorB37
import Derived.Test.YtppkeophochgiaaGreatDoorB34
/- A statement's near and alike: where they hold. -/
namespace Go.Proofs.YtppkeophochgiaaGreatDoor
open Go.RowKit
set_option linter.unusedVariables false
end Go.Proofs.YtppkeophochgiaaGreatDoor
/- A statement's alike: where it holds. -/
namespace Go.Proofs.YtppkeophochgiaaGreatDoor
open Go.RowKit
set_option linter.unusedVariables false
end Go.Proofs.YtppkeophochgiaaGreatDoor
/- A transfer's contracts together, for a law's walk: one state, all deeds. -/
namespace Go.Proofs.YtppkeophochgiaaGreatDoor
open Go.RowKit
set_option linter.unusedVariables false
section
variable {E : Nat → Addr} {w0 w : World} {xb : Nat} {A : XA} {x : XS} {t0 : List PF}
/-- a transfer of files fr onto files t0, after k deeds -/
structure XOk (E : Nat → Addr) (w0 w : World) (xb : Nat) (fr t0 : List PF) (x : XS) (k m : Nat) : Prop where
  at' : ∃ A, XAt w0 w xb A x
  inv : XInv t0 x
  fr : x.fr = fr
  ge : x.ge ≤ 1 + k
  net : x.net.length ≤ 1 + k + m
  err : XErr E w0
  bel : Below w0.heap.size w0 w
variable {fr : List PF} {k m : Nat}
theorem XOk.below (h : XOk E w0 w xb fr t0 x k m) {w' : World} (b : Below w.heap.size w w') : XOk E w0 w' xb fr t0 x k m := by
  obtain ⟨⟨A, hA⟩, h2, h3, h4, h5, h6, h7⟩ := h
  exact ⟨⟨A, hA.below b⟩, h2, h3, h4, h5, h6, below_trans' h7 b⟩
end
end Go.Proofs.YtppkeophochgiaaGreatDoor
/- A player's commands: side, drop, open, admits, cut, recover. -/
namespace Go.Proofs.YtppkeophochgiaaGreatDoor
open Go.RowKit
set_option linter.unusedVariables false
theorem strV_at (l : List (List UInt8)) (k : Nat) (h : k < l.length) : (strV l)[k]? = some (.string (bs l[k])) := by
  unfold strV
  rw [List.getElem?_map, List.getElem?_eq_getElem h]
  rfl
theorem col58 : (⟨#[58]⟩ : ByteArray) = bs [58] := by unfold bs; rfl
theorem sp32 : (⟨#[32]⟩ : ByteArray) = bs [32] := by unfold bs; rfl
theorem addr1 (a : Addr) : a.add 1 = ⟨a.block, a.off + 1, none⟩ := rfl
theorem addr0 (a : Addr) : a.add 0 = a := by obtain ⟨b, o, s⟩ := a; unfold Addr.add; cases s <;> rfl
/-- what a script's walk has of its world -/
structure SEnv (E : Nat → Addr) (w : World) : Prop where
  err : XErr E w
  lib : LibW E w
  e12 : Has E w 12
theorem SEnv.below {E : Nat → Addr} {w w' : World} (h : SEnv E w) (b : Below w.heap.size w w') : SEnv E w' := ⟨h.err.below b, h.lib.below b, h.e12.below b⟩
theorem SEnv.tap {E : Nat → Addr} {w : World} (h : SEnv E w) : TEnv E w := ⟨h.lib, h.err.e2, h.err.e8, h.e12⟩
/-- an error that is told, its place aside -/
def Told (E : Nat → Addr) (w : World) (v : Value) (c : Nat) : Prop := ∃ at', FErr E w v c at'
theorem told_ev (E : Nat → Addr) (w : World) (c : Nat) : Told E w (ev E c) c := ⟨-1, FErr.ev E w c⟩
theorem told_nil (E : Nat → Addr) (w : World) : Told E w .nilIface 0 := ⟨-1, FErr.nil E w⟩
theorem told_err (E : Nat → Addr) (w : World) {c : Nat} (h : c ≠ 0) : Told E w (errv (E c)) c := ⟨-1, FErr.bare E w h⟩
theorem told_pos (E : Nat → Addr) (w : World) {c : Nat} (h : c ≠ 0) : Told E w (.iface 345 (.pointer (some (E c)))) c := by have := told_err E w h; unfold errv at this; exact this
/-- what a command leaves -/
def Ans (Q : Guest) (E : Nat → Addr) (w0 : World) (pb k : Nat) (p : SP × An) (e : Ending) (w' : World) : Prop :=
  ∃ r A' k', e = .returned (.tuple #[.string (bs p.2.1), r]) ∧ Told E w' r p.2.2 ∧ PlAt Q w0 w' pb A' p.1 k' ∧ k' ≤ k + 1
def slot (b : Bool) : Nat := if b then 0 else 1
def PlA.fv (A : PlA) (b : Bool) : Value := if b then A.vf else A.vt
section
variable {Q : Guest} {E : Nat → Addr} {w0 w w' : World} {pb k : Nat} {A : PlA} {s : SP}
theorem PlAt.atF (h : PlAt Q w0 w pb A s k) (b : Bool) : w.cell? ⟨pb, slot b, none⟩ = some (A.fv b) ∧ w.frozen? ⟨pb, slot b, none⟩ = false ∧ w.ownsRow w0.heap.size 130 2 (A.fv b) (s.files b).length (fcells (s.files b)) := by
  cases b
  · exact ⟨h.cs.1.2.1, h.cs.2 1, h.tt⟩
  · exact ⟨h.cs.1.1, h.cs.2 0, h.fr⟩
theorem PlAt.putF (h : PlAt Q w0 w pb A s k) (b : Bool) {base : Nat} {r : Value} {l : List PF} (hr : w.ownsRow base 130 2 r l.length (fcells l)) (hb : w0.heap.size ≤ base) (hn : Apt Q A r) :
    ∃ A', PlAt Q w0 (w.setCell ⟨pb, slot b, none⟩ r) pb A' (s.setF b l) k := by
  cases b
  · exact ⟨_, h.setTo hr hb hn⟩
  · exact ⟨_, h.setFr hr hb hn⟩
set_option maxRecDepth 100000 in
theorem pside_any (a : List UInt8) (pb : Nat) (w : World) :
    Calls Tryz.prog 71 #[.pointer (some ⟨pb, 0, none⟩), .string (bs a)] w fun e w' => e = .returned (.pointer ((sideW a).map fun b => ⟨pb, slot b, none⟩)) ∧ w = w' := by
  by_cases h1 : a = wFrom
  · have k1 := tl_eq a [102, 114, 111, 109] (by rw [h1]; rfl)
    have e1 : sideW a = some true := by unfold sideW; rw [if_pos h1]
    rw [e1]
    clear h1 e1
    go_enter Tryz.func71, Tryz.ntmps71
    go_wp2_with fail
    go_ret
    exact ⟨rfl, rfl⟩
  · have k1 := tl_ne a [102, 114, 111, 109] h1
    by_cases h2 : a = wTo
    · have k2 := tl_eq a [116, 111] (by rw [h2]; rfl)
      have e1 : sideW a = some false := by unfold sideW; rw [if_neg h1, if_pos h2]
      rw [e1]
      clear h1 h2 e1
      go_enter Tryz.func71, Tryz.ntmps71
      go_wp2_with fail
      go_ret
      exact ⟨rfl, rfl⟩
    · have k2 := tl_ne a [116, 111] h2
      have e1 : sideW a = none := by unfold sideW; rw [if_neg h1, if_neg h2]
      rw [e1]
      clear h1 h2 e1
      go_enter Tryz.func71, Tryz.ntmps71
      go_wp2_with fail
      go_ret
      exact ⟨rfl, rfl⟩
set_option maxRecDepth 100000 in
set_option maxHeartbeats 6400000 in
theorem pdrop_any (a n : List UInt8) (v : Value) (h : PlAt Q w0 w pb A s k) (hI : SInv s) (hE : SEnv E w0) (hv : SliceIs w v 1 [.string (bs a), .string (bs n)]) :
    Calls Tryz.prog 74 #[.pointer (some ⟨pb, 0, none⟩), v] w (Ans Q E w0 pb k (s.drop a n)) := by
  obtain ⟨s0, m0, c0, rfl, hm0, hm1, hm2, g1⟩ := hv.get
  obtain ⟨ad, rfl, d0⟩ := g1 0 _ rfl
  rw [addr0] at d0
  obtain ⟨ad', e', d1⟩ := g1 1 _ rfl
  cases e'
  rw [addr1] at d1
  have hm0 : m0 = 2 := by simpa using hm0.symm
  subst hm0
  have HX := Lib.hid h
  have SD := Lib.hid (fun w' => pside_any a pb w')
  have c1 : w.cell? ⟨1, 0, none⟩ = some (errv (E 1)) := hE.err.e1.below h.bel
  have c6 : w.cell? ⟨5, 0, none⟩ = some (errv (E 6)) := hE.err.e6.below h.bel
  have E6 := Lib.hid (fun (w' : World) (b : Below w.heap.size w w') => show w'.cell? ⟨5, 0, none⟩ = some (errv (E 6)) from hE.err.e6.below (below_trans' h.bel b))
  have HI := Lib.hid hI
  clear hv g1 hI hE
  cases hs : sideW a with
  | none =>
    have hq : s.drop a n = (s, [], 1) := by unfold SP.drop; rw [hs]
    rw [hs] at SD
    rw [hq]
    clear h hs hq
    go_enter Tryz.func74, Tryz.ntmps74
    go_wp2_with fail
    refine (SD.out _).mono ?_
    rintro e w1 ⟨rfl, rfl⟩
    simp only [Option.map_none]
    go_wp2_with fail
    go_quiet (fail)
    go_wp2_with fail
    go_ret2
    exact ⟨_, A, k, by rw [bs_nil]; rfl, told_err E _ (by simp), HX.out.below (below_drewN (Below.refl _ _) nq), by omega⟩
  | some b =>
    obtain ⟨F1, F2, F3⟩ := h.atF b
    have LEN := Lib.hid (HI.out.files b).wf.few
    have B0 := Lib.hid (Below.drew (Below.refl w.heap.size w))
    have GT := Lib.hid (flget_any (s.files b) (A.fv b) n w.drew ((SliceIs.ownedK F3).below B0.out))
    have DR := Lib.hid (fun (w' : World) (bb : Below w.heap.size w w') => fldrop_any (s.files b) (A.fv b) n w' ((SliceIs.ownedK F3).below bb) (by have := LEN.out; omega))
    have PF := Lib.hid (fun (w' : World) (bb : Below w.heap.size w w') => (h.below bb).atF b)
    obtain ⟨g, cap, hlv⟩ := owns_slice F3
    rw [hs] at SD
    have hq : s.drop a n = if (fgetL (s.files b) n).isSome then (s.setF b (dropL (s.files b) n), txOk, 0) else (s, [], 6) := by unfold SP.drop; rw [hs]
    rw [hq]
    have D1 := Lib.hid (fun (w' : World) (bb : Below w.heap.size w w') => (bb.cell (World.block_lt_of_cell? w _ d1)).trans d1)
    generalize A.fv b = fv at *
    subst hlv
    cases hg : (fgetL (s.files b) n).isSome with
    | false =>
      rw [hg] at GT
      simp only [Bool.false_eq_true, if_false]
      clear h hs hq F3 DR
      go_enter Tryz.func74, Tryz.ntmps74
      go_wp2_with fail
      refine (SD.out _).mono ?_
      rintro e w1 ⟨rfl, rfl⟩
      simp only [Option.map_some]
      go_wp2_with fail
      have S0 := And.intro F1 d1
      have S1 := And.intro (PF.out _ B0.out).1 (D1.out _ B0.out)
      have KS := Lib.hid (fun (W : World) (bb : Below w.drew.heap.size w.drew W) => And.intro (PF.out _ (below_trans' B0.out bb)).1 (D1.out _ (below_trans' B0.out bb)))
      go_region_held3 (fun X => X.cell? ⟨pb, slot b, none⟩ = some (.slice g (s.files b).length cap) ∧ X.cell? ⟨ad.block, ad.off + 1, none⟩ = some (.string (bs n))) (first | exact S1 | exact S0 | exact KS.out _ (by assumption)) ((go_at_call 103; refine GT.out.mono ?_; rintro e w1 ⟨rfl, bb⟩))
      have bb := below_trans' B0.out bb
      have ce := E6.out _ bb
      go_wp2_with fail
      go_quiet (fail)
      go_wp2_with fail
      go_ret2
      exact ⟨_, A, k, by rw [bs_nil]; rfl, told_err E _ (by simp), HX.out.below (below_drewN bb nq), by omega⟩
    | true =>
      rw [hg] at GT
      simp only [if_true]
      clear h hs hq F3
      go_enter Tryz.func74, Tryz.ntmps74
      go_wp2_with fail
      refine (SD.out _).mono ?_
      rintro e w1 ⟨rfl, rfl⟩
      simp only [Option.map_some]
      go_wp2_with fail
      have S0 := And.intro F1 d1
      have S1 := And.intro (PF.out _ B0.out).1 (D1.out _ B0.out)
      have KS := Lib.hid (fun (W : World) (bb : Below w.drew.heap.size w.drew W) => And.intro (PF.out _ (below_trans' B0.out bb)).1 (D1.out _ (below_trans' B0.out bb)))
      go_region_held3 (fun X => X.cell? ⟨pb, slot b, none⟩ = some (.slice g (s.files b).length cap) ∧ X.cell? ⟨ad.block, ad.off + 1, none⟩ = some (.string (bs n))) (first | exact S1 | exact S0 | exact KS.out _ (by assumption)) ((go_at_call 103; refine GT.out.mono ?_; rintro e w1 ⟨rfl, bb⟩))
      have BB := Lib.hid (below_trans' B0.out bb)
      clear bb S0 S1 KS F1 F2 d1
      obtain ⟨f1, f2, f3⟩ := PF.out _ BB.out
      have d1' := D1.out _ BB.out
      have BD := Lib.hid (Below.drew BB.out)
      have DR1 := Lib.hid (DR.out _ BD.out)
      have S0 := And.intro f1 d1'
      have S1 := And.intro (PF.out _ BD.out).1 (D1.out _ BD.out)
      go_wp2_with fail
      go_region_law (go_simp; go_at_call 104; refine DR1.out.mono ?_; rintro e w2 ⟨r, rfl, hr, b2⟩; obtain ⟨e1, e2, e3⟩ := PF.out _ (below_trans' BD.out b2); have HP := Lib.hid ((HX.out.below (below_trans' BD.out b2)).putF b hr (below_trans' HX.out.bel BD.out).size (HX.out.fresh hr BD.out.size)); obtain ⟨ra, rc, rfl⟩ := owns_slice hr; clear hr b2)
      all_goals
        go_wp2_with fail
        go_ret2
        obtain ⟨A', hA⟩ := HP.out
        exact ⟨_, A', k, by unfold txOk bs; rfl, told_nil E _, hA, by omega⟩
end
end Go.Proofs.YtppkeophochgiaaGreatDoor
/- A transfer's deeds, one behind the other, exactly: what a script's sending does. -/
namespace Go.Proofs.YtppkeophochgiaaGreatDoor
open Go.RowKit
set_option linter.unusedVariables false
/-- a transfer after these deeds -/
def sx (fr tt : List PF) (l : List Nat) : XS := l.foldl (fun x (n : Nat) => x.act (n : Int)) (XS.start fr tt)
theorem sx_snoc (fr tt : List PF) (l : List Nat) (n : Nat) : sx fr tt (l ++ [n]) = (sx fr tt l).act (n : Int) := by unfold sx; rw [List.foldl_append]; rfl
theorem sx_foldl (l : List Nat) : ∀ {t0 : List PF} {x : XS} {a b : Nat}, XInv t0 x → x.ge ≤ a → x.net.length ≤ b → XInv t0 (l.foldl (fun x (n : Nat) => x.act (n : Int)) x) ∧ (l.foldl (fun x (n : Nat) => x.act (n : Int)) x).ge ≤ a + l.length ∧ (l.foldl (fun x (n : Nat) => x.act (n : Int)) x).net.length ≤ b + l.length := by
  induction l with
  | nil => intro t0 x a b h h1 h2; exact ⟨h, h1, h2⟩
  | cons n l ih =>
    intro t0 x a b h h1 h2
    have L := act_law h (n : Int)
    obtain ⟨i1, i2, i3⟩ := ih (a := a + 1) (b := b + 1) L.inv (by have := L.ge; omega) (by have := L.net; omega)
    exact ⟨i1, by simp only [List.length_cons, List.foldl_cons]; omega, by simp only [List.length_cons, List.foldl_cons]; omega⟩
theorem sx_inv {fr tt : List PF} (hf : Small fr) (ht : Small tt) (l : List Nat) : XInv tt (sx fr tt l) ∧ (sx fr tt l).ge ≤ 1 + l.length ∧ (sx fr tt l).net.length ≤ 1 + l.length := by
  obtain ⟨s1, s2, s3, s4⟩ := start_inv hf ht
  exact sx_foldl l s1 (by omega) s4
theorem nums_none : ∀ {ws : List (List UInt8)} {j : Nat} (hj : j < ws.length), nmL 6 (ws[j]'hj) = none → SP.nums ws = none
  | [], j, hj, _ => by simp at hj
  | w :: ws, 0, hj, h => by unfold SP.nums; rw [show nmL 6 w = none from h]
  | w :: ws, j + 1, hj, h => by
    have := nums_none (ws := ws) (j := j) (by simpa using hj) h
    unfold SP.nums
    rw [this]
    cases nmL 6 w <;> rfl
theorem nums_snoc : ∀ {ws : List (List UInt8)} {l : List Nat} {w : List UInt8} {n : Nat}, SP.nums ws = some l → nmL 6 w = some n → SP.nums (ws ++ [w]) = some (l ++ [n])
  | [], l, w, n, h1, h2 => by
    unfold SP.nums at h1
    cases h1
    show SP.nums [w] = _
    unfold SP.nums
    rw [h2]
    rfl
  | v :: ws, l, w, n, h1, h2 => by
    unfold SP.nums at h1
    cases hv : nmL 6 v with
    | none => rw [hv] at h1; cases h1
    | some a =>
      cases hw : SP.nums ws with
      | none => rw [hv, hw] at h1; cases h1
      | some r =>
        rw [hv, hw] at h1
        cases h1
        have := nums_snoc hw h2
        show SP.nums (v :: (ws ++ [w])) = _
        unfold SP.nums
        rw [hv, this]
        rfl
theorem nums_len : ∀ {ws : List (List UInt8)} {l : List Nat}, SP.nums ws = some l → l.length = ws.length
  | [], l, h => by unfold SP.nums at h; cases h; rfl
  | v :: ws, l, h => by
    unfold SP.nums at h
    cases hv : nmL 6 v with
    | none => rw [hv] at h; cases h
    | some a =>
      cases hw : SP.nums ws with
      | none => rw [hv, hw] at h; cases h
      | some r =>
        rw [hv, hw] at h
        cases h
        have := nums_len hw
        simp [this]
theorem nums_take {ws : List (List UInt8)} {l : List Nat} {n j : Nat} (hj : j < ws.length) (h1 : SP.nums (ws.take j) = some l) (h2 : nmL 6 (ws[j]'hj) = some n) : SP.nums (ws.take (j + 1)) = some (l ++ [n]) := by
  rw [List.take_succ_eq_append_getElem hj]
  exact nums_snoc h1 h2
section
variable {E : Nat → Addr} {w0 w : World}
theorem sx_do {xb : Nat} {B : XA} {fr tt : List PF} {l : List Nat} (n : Nat) (hn : n ≤ 9000000000) (hf : Small fr) (ht : Small tt) (hl : l.length ≤ 10000) (hE : XErr E w0) (h : XAt w0 w xb B (sx fr tt l)) :
    Calls Tryz.prog 115 #[.pointer (some ⟨xb, 0, none⟩), .int .i64 n] w fun e w' => e = .returned (.tuple #[]) ∧ ∃ B', XAt w0 w' xb B' (sx fr tt (l ++ [n])) := by
  obtain ⟨i1, i2, i3⟩ := sx_inv hf ht l
  rw [sx_snoc]
  exact xdo_any (E := E) n ⟨by omega, by omega⟩ i1 h (by omega) (by omega) (fun p hp => pk_len i1 hp) (come_ok xb tt hE) hE.e2 hE.e4 hE.e5 hE.e8
theorem sx_fin {xb : Nat} {B : XA} {fr tt : List PF} {l : List Nat} (hf : Small fr) (ht : Small tt) (hl : l.length ≤ 10000) (hE : XErr E w0) (h : XAt w0 w xb B (sx fr tt l)) :
    Calls Tryz.prog 116 #[.pointer (some ⟨xb, 0, none⟩)] w fun e w' => e = .returned (.bool true) ∧ ∃ B', XAt w0 w' xb B' (XS.fin turnsN (sx fr tt l)) := by
  obtain ⟨i1, i2, i3⟩ := sx_inv hf ht l
  exact xfinish_any (E := E) i1 h (by omega) (by omega) (come_ok xb tt hE) hE.e2 hE.e4
theorem sent_sx (fr tt : List PF) (l : List Nat) : SP.sent fr tt l = (XS.fin turnsN (sx fr tt l)).tt := rfl
end
end Go.Proofs.YtppkeophochgiaaGreatDoor
