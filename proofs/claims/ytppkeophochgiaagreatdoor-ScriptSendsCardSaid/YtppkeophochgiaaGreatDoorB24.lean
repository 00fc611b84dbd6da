/- Texts of one proof, one behind the other: WholeLaws, Whole, TapOne, RefName. -/
import Derived.Test.YtppkeophochgiaaGreatDoorB23
import Derived.Test.YtppkeophochgiaaGreatDoorB22
import Derived.Test.YtppkeophochgiaaGreatDoorB06
import Derived.Test.YtppkeophochgiaaGreatDoorB11
import Derived.Test.YtppkeophochgiaaGreatDoorB08
/- Plain laws of what a delta puts together. -/
namespace Go.Proofs.YtppkeophochgiaaGreatDoor
open Go.RowKit
set_option linter.unusedVariables false

theorem catP_one (old : List UInt8) (size : Nat) (o : POp) : catP old size [o] = (pieceC old size o).2 := by simp [catP]
def Built (old : List UInt8) (size : Nat) (out : List POp) (m : List UInt8) : Prop := catP old size out = m ∧ ∀ o ∈ out, (pieceC old size o).1 = 0
theorem Built.nil (old : List UInt8) (size : Nat) : Built old size [] [] := ⟨by simp [catP], by simp⟩
theorem kc_ne : kCopy ≠ kData := fun h => kne h.symm
theorem piece_one {old : List UInt8} {size k : Nat} (hk : k + 1 ≤ cntOf size old.length) : pieceC old size ⟨kCopy, k, 1, []⟩ = (0, (old.drop (k * size)).take size) := by
  rw [pieceC_copy (by exact kc_ne) (by show ¬ _ < (k : Int) + 1; omega)]
  simp
theorem Built.snoc {old : List UInt8} {size : Nat} {out : List POp} {m p : List UInt8} {o : POp} (h : Built old size out m) (hp : pieceC old size o = (0, p)) : Built old size (out ++ [o]) (m ++ p) := by
  refine ⟨by rw [catP_append, catP_one, h.1, hp], ?_⟩
  intro x hx
  rcases List.mem_append.1 hx with hx | hx
  · exact h.2 x hx
  · rw [List.mem_singleton] at hx; rw [hx, hp]
theorem nil_or_snoc {α : Type} (l : List α) : l = [] ∨ ∃ m o, l = m ++ [o] := by
  rcases List.eq_nil_or_concat l with h | ⟨m, o, h⟩
  · exact .inl h
  · exact .inr ⟨m, o, by rw [h, List.concat_eq_append]⟩
theorem Built.copy {old : List UInt8} {size k : Nat} {out : List POp} {m : List UInt8} (h : Built old size out m) (hk : k + 1 ≤ cntOf size old.length) (hok : ∀ o ∈ out, o.kind = kCopy → 0 ≤ o.a ∧ 0 ≤ o.n) :
    Built old size (addCopy out k) (m ++ (old.drop (k * size)).take size) := by
  rcases nil_or_snoc out with rfl | ⟨l, o, rfl⟩
  · rw [addCopy_nil]
    exact h.snoc (piece_one hk)
  · by_cases hc : o.kind = kCopy ∧ o.a + o.n = (k : Int)
    · rw [addCopy_more l o k hc]
      obtain ⟨hkd, hak⟩ := hc
      obtain ⟨ha, hn⟩ := hok o (by simp) hkd
      have hkd2 : o.kind ≠ kData := by rw [hkd]; exact kc_ne
      have hp := pieceC_copy (old := old) (size := size) hkd2 (by rw [hak]; omega : ¬ (cntOf size old.length : Int) < o.a + o.n)
      have hp2 := pieceC_copy (old := old) (size := size) (o := ⟨o.kind, o.a, o.n + 1, o.data⟩) hkd2 (by show ¬ _ < o.a + (o.n + 1); omega)
      have h1 : Built old size l (catP old size l) := ⟨rfl, fun x hx => h.2 x (by simp [hx])⟩
      have h2 := h1.snoc hp2
      have hm := h.1
      rw [catP_append, catP_one, hp] at hm
      refine ⟨?_, h2.2⟩
      rw [h2.1, ← hm, List.append_assoc]
      congr 1
      have e1 : (o.n + 1).toNat * size = o.n.toNat * size + size := by
        rw [show (o.n + 1).toNat = o.n.toNat + 1 by omega, Nat.add_mul]; omega
      have e2 : k * size = o.a.toNat * size + o.n.toNat * size := by rw [← Nat.add_mul]; congr 1; omega
      show (old.drop (o.a.toNat * size)).take ((o.n + 1).toNat * size) = (old.drop (o.a.toNat * size)).take (o.n.toNat * size) ++ _
      rw [e1, e2, List.take_add, List.drop_drop]
    · rw [addCopy_new l o k hc]
      exact h.snoc (piece_one hk)
theorem Built.data {old : List UInt8} {size : Nat} {out : List POp} {m d : List UInt8} (h : Built old size out m) : Built old size (addData out d) (m ++ d) := by
  rcases nil_or_snoc out with rfl | ⟨l, o, rfl⟩
  · rw [addData_nil]
    exact h.snoc (pieceC_data rfl)
  · by_cases hc : o.kind = kData
    · rw [addData_more l o d hc]
      have hp := pieceC_data (old := old) (size := size) hc
      have hp2 := pieceC_data (old := old) (size := size) (o := ⟨o.kind, o.a, o.n, o.data ++ d⟩) hc
      have h1 : Built old size l (catP old size l) := ⟨rfl, fun x hx => h.2 x (by simp [hx])⟩
      have h2 := h1.snoc hp2
      have hm := h.1
      rw [catP_append, catP_one, hp] at hm
      refine ⟨?_, h2.2⟩
      rw [h2.1, ← hm, List.append_assoc]
    · rw [addData_new l o d hc]
      exact h.snoc (pieceC_data rfl)
theorem OkOut.signs {out : List POp} {i : Nat} (h : OkOut out i) : ∀ o ∈ out, o.kind = kCopy → 0 ≤ o.a ∧ 0 ≤ o.n := by
  intro o ho hk
  rcases h.2.2 o ho with h | h
  · exact ⟨h.2.2.1, by omega⟩
  · exact absurd (hk.symm.trans h.1) kc_ne
theorem built_mkA (old : List UInt8) (l : List Blk) (size : Nat) (S : List UInt8) (hz : 1 ≤ size) (hl : l.length ≤ 4000)
    (H : ∀ q, q < S.length → 0 ≤ findI l (blk ((S.drop q).take size)) → ∃ j : Nat, findI l (blk ((S.drop q).take size)) = j ∧ j + 1 ≤ cntOf size old.length ∧ (old.drop (j * size)).take size = (S.drop q).take size) :
    ∀ (f q : Nat) (out : List POp) (m : List UInt8), S.length ≤ f + q → OkOut out q → Built old size out m → Built old size (mkA l size f (S.drop q) out) (m ++ S.drop q)
  | f, q, out, m, hf, ho, hb => by
    by_cases hq : S.length ≤ q
    · rw [List.drop_eq_nil_of_le hq, mkA_end]
      simpa using hb
    · have hne : S.drop q ≠ [] := by intro h; have := congrArg List.length h; simp at this; omega
      cases f with
      | zero => omega
      | succ f =>
        by_cases hfi : 0 ≤ findI l (blk ((S.drop q).take size))
        · obtain ⟨j, e1, e2, e3⟩ := H q (by omega) hfi
          have hbd := findI_bd l (blk ((S.drop q).take size))
          rw [mkA_copy hne hfi, List.drop_drop]
          rw [e1] at hbd ⊢
          have b2 := hb.copy e2 ho.signs
          rw [e3] at b2
          have o2 := (ho.copy (k := (j : Int)) ⟨by omega, by omega⟩).mono (j := q + size) (by omega)
          have r1 := built_mkA old l size S hz hl H f (q + size) _ _ (by omega) o2 b2
          rw [List.append_assoc, ← List.drop_drop, List.take_append_drop] at r1
          rw [← List.drop_drop]; exact r1
        · rw [mkA_data hne hfi, List.drop_drop]
          have b2 := hb.data (d := (S.drop q).take 1)
          have o2 := ho.data (d := (S.drop q).take 1) (by simp; omega)
          have r1 := built_mkA old l size S hz hl H f (q + 1) _ _ (by omega) o2 b2
          rw [List.append_assoc, ← List.drop_drop, List.take_append_drop] at r1
          rw [← List.drop_drop]; exact r1
theorem built_mkOps (old : List UInt8) (l : List Blk) (size : Nat) (S : List UInt8) (hz : 1 ≤ size) (hl : l.length ≤ 4000)
    (H : ∀ q, q < S.length → 0 ≤ findI l (blk ((S.drop q).take size)) → ∃ j : Nat, findI l (blk ((S.drop q).take size)) = j ∧ j + 1 ≤ cntOf size old.length ∧ (old.drop (j * size)).take size = (S.drop q).take size) :
    Built old size (mkOps l size S) S := by
  have h := built_mkA old l size S hz hl H S.length 0 [] [] (by omega) (OkOut.nil 0) (Built.nil old size)
  unfold mkOps
  simpa using h
theorem appl_built {old S : List UInt8} {size : Nat} {l : List POp} (hz : 1 ≤ size) (hz2 : size ≤ 64) (ho : old.length ≤ 4000) (hS : S.length ≤ 4000) (hok : OkOut l S.length) (h : Built old size l S) : appl old size l = ((0, -1), S) := by
  have h1 := appl_fine (old := old) (size := (size : Int)) (l := l) ⟨⟨by omega, by omega⟩, ho⟩ (hok.chk hS) (by simpa using h.2) (by simpa [h.1] using hS)
  rw [h1]
  have : catP old (size : Int).toNat l = S := by simpa using h.1
  rw [this]
theorem findI_nil (x : Blk) : findI [] x = -1 := by have := findB_none [] x 0 (by simp); unfold findI; exact this
theorem whole_nil (S : List UInt8) (size : Nat) (hz : 1 ≤ size) (hz2 : size ≤ 64) (hS : S.length ≤ 4000) : appl [] size (mkOps [] size S) = ((0, -1), S) := by
  refine appl_built hz hz2 (by simp) hS (mkOps_ok _ size S hz (by simp)) (built_mkOps [] [] size S hz (by simp) ?_)
  intro q _ h
  rw [findI_nil] at h
  omega
/-- what Whole tells -/
def whC (old : List UInt8) (size : Int) (l : List POp) (n c : Int) : Nat × Int := if (appl old size l).1.1 ≠ 0 then (appl old size l).1 else if ((appl old size l).2.length : Int) = n ∧ (csum (appl old size l).2 : Int) = c then (0, -1) else (10, -1)
def whL (old : List UInt8) (size : Int) (l : List POp) (n c : Int) : List UInt8 := if (whC old size l n c).1 = 0 then (appl old size l).2 else []
theorem wh_bad {old : List UInt8} {size : Int} {l : List POp} {n c : Int} (h : (appl old size l).1.1 ≠ 0) : whC old size l n c = (appl old size l).1 ∧ whL old size l n c = [] := by
  have e : whC old size l n c = (appl old size l).1 := by unfold whC; rw [if_pos h]
  exact ⟨e, by unfold whL; rw [e, if_neg h]⟩
theorem wh_fine {old : List UInt8} {size : Int} {l : List POp} {n c : Int} (h : (appl old size l).1.1 = 0) (h2 : ((appl old size l).2.length : Int) = n ∧ (csum (appl old size l).2 : Int) = c) : whC old size l n c = (0, -1) ∧ whL old size l n c = (appl old size l).2 := by
  have e : whC old size l n c = (0, -1) := by unfold whC; rw [if_neg (by simp [h]), if_pos h2]
  exact ⟨e, by unfold whL; rw [e, if_pos rfl]⟩
theorem wh_sum {old : List UInt8} {size : Int} {l : List POp} {n c : Int} (h : (appl old size l).1.1 = 0) (h2 : ¬ (((appl old size l).2.length : Int) = n ∧ (csum (appl old size l).2 : Int) = c)) : whC old size l n c = (10, -1) ∧ whL old size l n c = [] := by
  have e : whC old size l n c = (10, -1) := by unfold whC; rw [if_neg (by simp [h]), if_neg h2]
  exact ⟨e, by unfold whL; rw [e, if_neg (by decide)]⟩
attribute [irreducible] whC whL
end Go.Proofs.YtppkeophochgiaaGreatDoor
/- Contract of patch.Whole. -/
namespace Go.Proofs.YtppkeophochgiaaGreatDoor
open Go.RowKit
set_option linter.unusedVariables false
set_option maxRecDepth 100000 in
set_option maxHeartbeats 1600000 in
theorem whole_any (E : Nat → Addr) (old : List UInt8) (size : Int) (s0 : Option Addr) (n0 c0 : Nat) (l : List POp) (n c : Int) (w : World) (hl : SliceIs w (.slice s0 n0 c0) 4 (ocells l))
    (h2 : Has E w 2) (h3 : Has E w 3) (h4 : Has E w 4) (h6 : Has E w 6) (h8 : Has E w 8) (h10 : Has E w 10) :
    Calls Tryz.prog 257 #[.string (bs old), .int .i64 size, .slice s0 n0 c0, .int .i64 n, .int .u32 c] w fun e w' => ∃ v, e = .returned (.tuple #[.string (bs (whL old size l n c)), v]) ∧ FErr E w' v (whC old size l n c).1 (whC old size l n c).2 ∧ Below w.heap.size w w' := by
  have AP := Lib.hid (apply_any E old size s0 n0 c0 l w hl h2 h3 h4 h6 h8)
  have H10 := Lib.hid h10
  clear hl h2 h3 h4 h6 h8 h10
  by_cases hok : (appl old size l).1.1 = 0
  · have hlen := (appl_zero hok).2.2.2.2
    have hsnd := (appl_zero hok).2.2.1
    have hl4 : (appl old size l).2.length ≤ 4000 := by rw [hsnd]; exact hlen
    have SU := Lib.hid (fun w' => sum_any (bs (appl old size l).2) w' (by rw [bs_size]; omega))
    rw [bs_list] at SU
    have YES := Lib.hid (wh_fine (n := n) (c := c) hok)
    have NO := Lib.hid (wh_sum (n := n) (c := c) hok)
    have HOK := Lib.hid hok
    clear hlen hsnd hok
    generalize (appl old size l).2 = out at *
    generalize (appl old size l).1 = p at *
    by_cases hn : (out.length : Int) = n
    · by_cases hc : (csum out : Int) = c
      · have Z := Lib.hid (YES.out ⟨hn, hc⟩)
        subst hn
        subst hc
        clear YES NO
        go_enter Tryz.func257, Tryz.ntmps257
        go_wp2_with fail
        refine AP.out.mono ?_
        rintro e w1 ⟨v, rfl, fe, b1⟩
        rw [HOK.out] at fe
        rw [fe.zero]
        clear fe
        go_wp2_with (go_at_call 121; refine (SU.out _).mono ?_; rintro e w2 ⟨rfl, rfl⟩)
        go_ret2
        exact ⟨.nilIface, ret2 (by rw [Z.out.2]; rfl) rfl, by rw [Z.out.1]; exact FErr.nil E _, b1⟩
      · have Z := Lib.hid (NO.out (fun h => hc h.2))
        subst hn
        have hcb : ((csum out : Int) == c) = false := by rw [beq_eq_false_iff_ne]; exact hc
        clear YES NO hc
        go_enter Tryz.func257, Tryz.ntmps257
        go_wp2_with fail
        refine AP.out.mono ?_
        rintro e w1 ⟨v, rfl, fe, b1⟩
        rw [HOK.out] at fe
        rw [fe.zero]
        clear fe
        have c10 : w1.cell? ⟨9, 0, none⟩ = some (errv (E 10)) := H10.out.below b1
        unfold errv at c10
        go_wp2_with (go_at_call 121; refine (SU.out _).mono ?_; rintro e w2 ⟨rfl, rfl⟩)
        go_ret2
        exact ⟨.iface 345 (.pointer (some (E 10))), ret2 (by rw [Z.out.2, bs_nil]; rfl) rfl, by rw [Z.out.1]; have h := FErr.ev E w1 10; rw [ev_pos E (by decide)] at h; exact h, b1⟩
    · have Z := Lib.hid (NO.out (fun h => hn h.1))
      have hcb : ((out.length : Int) == n) = false := by rw [beq_eq_false_iff_ne]; exact hn
      clear YES NO hn
      go_enter Tryz.func257, Tryz.ntmps257
      go_wp2_with fail
      refine AP.out.mono ?_
      rintro e w1 ⟨v, rfl, fe, b1⟩
      rw [HOK.out] at fe
      rw [fe.zero]
      clear fe
      have c10 : w1.cell? ⟨9, 0, none⟩ = some (errv (E 10)) := H10.out.below b1
      unfold errv at c10
      go_wp2_with (go_at_call 121; refine (SU.out _).mono ?_; rintro e w2 ⟨rfl, rfl⟩)
      go_ret2
      exact ⟨.iface 345 (.pointer (some (E 10))), ret2 (by rw [Z.out.2, bs_nil]; rfl) rfl, by rw [Z.out.1]; have h := FErr.ev E w1 10; rw [ev_pos E (by decide)] at h; exact h, b1⟩
  · have Z := Lib.hid (wh_bad (n := n) (c := c) hok)
    have HOK := Lib.hid hok
    rw [Z.out.1, Z.out.2]
    clear hok
    go_enter Tryz.func257, Tryz.ntmps257
    go_wp2_with fail
    refine AP.out.mono ?_
    rintro e w1 ⟨v, rfl, fe, b1⟩
    obtain ⟨t, p, hv⟩ := fe.some HOK.out
    have FE := Lib.hid fe
    clear fe
    rw [hv] at FE ⊢
    go_wp2_with fail
    go_ret2
    exact ⟨.iface t (.pointer (some p)), ret2 (by rw [bs_nil]; rfl) rfl, FE.out, b1⟩
end Go.Proofs.YtppkeophochgiaaGreatDoor
/- Contract of tape.one: the record at the beginning of a text. -/
namespace Go.Proofs.YtppkeophochgiaaGreatDoor
open Go.RowKit
set_option linter.unusedVariables false

theorem atoi_any (E : Nat → Addr) (d : List UInt8) (w : World) (hd : d.length ≤ 1000000000) (hw : LibW E w) :
    Calls Tryz.prog 149 #[.string (bs d)] w fun e w' => ∃ v er, e = .returned (.tuple #[.int .i64 v, er]) ∧ Below w.heap.size w w' ∧ (er = .nilIface ∧ Lib.atoiAll d = .ok v ∨ (∃ t p, er = .iface t p) ∧ ∀ v, Lib.atoiAll d ≠ .ok v) := by
  by_cases h : ∃ v, Lib.atoiAll d = .ok v
  · obtain ⟨v, hv⟩ := h
    refine (atoi_yes E d v w hd hv).mono ?_
    rintro e w' ⟨rfl, b⟩
    exact ⟨v, _, rfl, b, .inl ⟨rfl, hv⟩⟩
  · have h' : ∀ v, Lib.atoiAll d ≠ .ok v := fun v hv => h ⟨v, hv⟩
    refine (atoi_no E d w hd hw h').mono ?_
    rintro e w' ⟨v, t, p, rfl, b⟩
    exact ⟨v, _, rfl, b, .inr ⟨⟨t, p, rfl⟩, h'⟩⟩
theorem one_cut {b : List UInt8} (h : cutC 58 b = none) : oneL b = none := by unfold oneL; rw [h]
theorem one_num {b : List UInt8} {p : List UInt8 × List UInt8} (h : cutC 58 b = some p) (hn : nmL 9 p.1 = none) : oneL b = none := by unfold oneL; rw [h]; simp only; rw [hn]
theorem one_if {b : List UInt8} {p : List UInt8 × List UInt8} {n : Nat} (h : cutC 58 b = some p) (hn : nmL 9 p.1 = some n) : oneL b = if n ≤ 20000 ∧ n + 2 ≤ p.2.length ∧ (p.2.drop n).take 2 = [10, 46] then some (p.2.take n) else none := by unfold oneL; rw [h]; simp only; rw [hn]
theorem nm_none_of {d : List UInt8} (h : ∀ v, Lib.atoiAll d ≠ .ok v) : nmL 9 d = none := by
  cases e : nmL 9 d with
  | none => rfl
  | some n => exact absurd (ok_of_nm (by decide) e).1 (h _)
theorem nm_none_ok {most : Nat} {d : List UInt8} {v : Int} (hm : most ≤ 18) (ha : Lib.atoiAll d = .ok v) (h : ¬ (d.length ≤ most ∧ 0 ≤ v ∧ Lib.itoa v = d)) : nmL most d = none := by
  cases e : nmL most d with
  | none => rfl
  | some n =>
    obtain ⟨h1, h2, h3⟩ := ok_of_nm hm e
    rw [ha] at h1
    injection h1 with h1
    subst h1
    exact absurd ⟨h2, by omega, h3⟩ h
theorem bsl_ne {a b : List UInt8} (h : a ≠ b) : ((bs a).toList == (bs b).toList) = false := by simp [ByteArray.toList_eq, h]
theorem bsl_eq (a : List UInt8) : ((bs a).toList == (bs a).toList) = true := by simp
/-- the sentence's bound on an Atoi's value -/
theorem atoi_bd {d : List UInt8} {v : Int} (h : Lib.atoiAll d = .ok v) : -9223372036854775808 ≤ v ∧ v ≤ 9223372036854775807 := Lib.atoiAll_bounds h
theorem bs_none : bs ((none : Option (List UInt8)).getD []) = ⟨#[]⟩ := bs_nil
theorem bs_mk58 : (⟨#[58]⟩ : ByteArray).data.toList = [58] := rfl
set_option maxRecDepth 100000 in
set_option maxHeartbeats 6400000 in
theorem one_any (E : Nat → Addr) (b : List UInt8) (w : World) (hw : LibW E w) (hb : b.length ≤ 1000000000) :
    Calls Tryz.prog 166 #[.string (bs b)] w fun e w' => e = .returned (.tuple #[.string (bs ((oneL b).getD [])), .bool (oneL b).isSome]) ∧ Below w.heap.size w w' := by
  have CT := Lib.hid (scut_any E 58 ⟨#[58]⟩ bs_mk58 b w hb hw)
  have AT := Lib.hid (fun (w' : World) (bl : Below w.heap.size w w') => atoi_any E (cutA 58 b) w' (Nat.le_trans (cutA_len 58 b) hb) (hw.below bl))
  have IT := Lib.hid (fun (n : Nat) (w' : World) (bl : Below w.heap.size w w') (hn : n ≤ 9223372036854775807) => itoa_any E n w' (hw.below bl) hn)
  have hAl := cutA_len 58 b
  have hBl := cutB_len 58 b
  have HCA : Hid (∀ p, cutC 58 b = some p → cutA 58 b = p.1 ∧ cutB 58 b = p.2) := fun p hp => by unfold cutA cutB; rw [hp]; exact ⟨rfl, rfl⟩
  have HON := Lib.hid (fun h => one_cut (b := b) h)
  clear hw
  cases hc : cutC 58 b with
  | none =>
    rw [HON.out hc]
    have CT' := CT.out
    rw [hc] at CT'
    clear hc HON CT HCA hAl hBl
    have CT2 := Lib.hid CT'
    clear CT'
    generalize cutA 58 b = dA at *
    generalize cutB 58 b = dB at *
    go_enter Tryz.func166, Tryz.ntmps166
    go_wp2_with fail
    refine CT2.out.mono ?_
    rintro e w1 ⟨rfl, b1⟩
    go_wp2_with fail
    refine (AT.out _ b1).mono ?_
    rintro e w2 ⟨v, er, rfl, b2, _⟩
    go_wp2_with fail
    go_ret2
    exact ⟨by rw [bs_none]; rfl, below_trans' b1 b2⟩
  | some p =>
    obtain ⟨eA, eB⟩ := HCA.out p hc
    have CT' := CT.out
    rw [hc, eA, eB] at CT'
    have AT' := AT.out
    rw [eA] at AT'
    rw [eA] at hAl
    rw [eB] at hBl
    have HC := Lib.hid hc
    have CT2 := Lib.hid CT'
    have AT2 := Lib.hid AT'
    obtain ⟨d, rest⟩ := p
    clear hc HON CT HCA CT' AT AT' eA eB
    simp only at CT2 AT2 hAl hBl
    have hdz : (bs d).size = d.length := bs_size d
    have hrz : (bs rest).size = rest.length := bs_size rest
    go_enter Tryz.func166, Tryz.ntmps166
    go_wp2_with fail
    refine CT2.out.mono ?_
    rintro e w1 ⟨rfl, b1⟩
    go_wp2_with fail
    refine (AT2.out _ b1).mono ?_
    rintro e w2 ⟨v, er, rfl, b2, hor⟩
    have b02 := below_trans' b1 b2
    clear CT2 AT2 b1 b2
    rcases hor with ⟨rfl, hok⟩ | ⟨⟨t, q, rfl⟩, hno⟩
    · have hbd := atoi_bd hok
      have HOK := Lib.hid hok
      clear hok
      by_cases h9 : d.length ≤ 9
      · have h9I : (d.length : Int) ≤ 9 := by omega
        by_cases hv : 0 ≤ v
        · obtain ⟨n, rfl⟩ := Int.eq_ofNat_of_zero_le hv
          go_wp2_with fail
          refine (IT.out n _ b02 (by omega)).mono ?_
          rintro e w3 ⟨rfl, b3⟩
          have b03 := below_trans' b02 b3
          clear b3 b02 IT
          by_cases hd : Lib.decDigits n = d
          · have hnm := nm_of_ok (most := 9) h9 hv (by show Lib.itoa (n : Int) = d; rw [Lib.itoa_nonneg]; exact hd)
            have HIF := Lib.hid (one_if HC.out hnm)
            have hq := bsl_eq d
            simp only [hd]
            rw [Int.toNat_natCast] at HIF
            clear hnm hd HC HOK
            by_cases hn : n ≤ 20000
            · have hnI : ¬ (20000 : Int) < n := by omega
              by_cases hr : n + 2 ≤ rest.length
              · have hrI : ¬ (rest.length : Int) < (n : Int) + 2 := by omega
                have hw1 : IntKind.i64.wrap ((n : Int) + 2) = (n : Int) + 2 := IntWalk.i64_in _ (by omega)
                have y1 : (0 : Int) ≤ n := by omega
                have y2 : (n : Int) ≤ (n : Int) + 2 := by omega
                have y3 : (n : Int) + 2 ≤ rest.length := by omega
                have y4 : ((n : Int) + 2).toNat = n + 2 := by omega
                have y5 : (n : Int).toNat = n := by omega
                have hT : ((bs rest).extract n (n + 2)).toList = (rest.drop n).take 2 := by
                  rw [ByteArray.toList_eq, Lib.extract_data, bs_list, show n + 2 - n = 2 by omega]
                by_cases hx : (rest.drop n).take 2 = [10, 46]
                · have hb : (((bs rest).extract n (n + 2)).toList == [10, 46]) = true := by rw [hT, hx]; rfl
                  have EX : (bs rest).extract 0 n = bs (rest.take n) := by rw [bs_take, bs_list]
                  have HE := Lib.hid EX
                  have HX := Lib.hid hx
                  clear hT EX hx
                  go_wp2_with fail
                  go_ret2
                  exact ⟨by rw [HIF.out, if_pos ⟨hn, hr, HX.out⟩, Option.getD_some, ← HE.out]; rfl, b03⟩
                · have hb : (((bs rest).extract n (n + 2)).toList == [10, 46]) = false := by rw [hT, beq_eq_false_iff_ne]; exact hx
                  have HX := Lib.hid hx
                  clear hT hx
                  go_wp2_with fail
                  go_ret2
                  exact ⟨by rw [HIF.out, if_neg (fun h => HX.out h.2.2), bs_none]; rfl, b03⟩
              · have hrI : (rest.length : Int) < (n : Int) + 2 := by omega
                have hw1 : IntKind.i64.wrap ((n : Int) + 2) = (n : Int) + 2 := IntWalk.i64_in _ (by omega)
                go_wp2_with fail
                go_ret2
                exact ⟨by rw [HIF.out, if_neg (fun h => hr h.2.1), bs_none]; rfl, b03⟩
            · have hnI : (20000 : Int) < n := by omega
              go_wp2_with fail
              go_ret2
              exact ⟨by rw [HIF.out, if_neg (fun h => hn h.1), bs_none]; rfl, b03⟩
          · have HN := Lib.hid (one_num HC.out (nm_none_ok (most := 9) (by decide) HOK.out (fun h => hd (by rw [← Lib.itoa_nonneg]; exact h.2.2))))
            have hq := bsl_ne hd
            clear hd HC HOK
            go_wp2_with fail
            go_ret2
            exact ⟨by rw [HN.out, bs_none]; rfl, b03⟩
        · have HN := Lib.hid (one_num HC.out (nm_none_ok (most := 9) (by decide) HOK.out (fun h => hv h.2.1)))
          go_wp2_with fail
          go_ret2
          exact ⟨by rw [HN.out, bs_none]; rfl, b02⟩
      · have h9I : ¬ (d.length : Int) ≤ 9 := by omega
        have HN := Lib.hid (one_num HC.out (nm_none_ok (most := 9) (by decide) HOK.out (fun h => h9 h.1)))
        go_wp2_with fail
        go_ret2
        exact ⟨by rw [HN.out, bs_none]; rfl, b02⟩
    · have HN := Lib.hid (one_num HC.out (nm_none_of hno))
      clear hno
      go_wp2_with fail
      go_ret2
      exact ⟨by rw [HN.out, bs_none]; rfl, b02⟩
end Go.Proofs.YtppkeophochgiaaGreatDoor
/- Contract of gate.Number. -/
namespace Go.Proofs.YtppkeophochgiaaGreatDoor
open Go.RowKit
set_option linter.unusedVariables false

theorem nm_none_of' {most : Nat} {d : List UInt8} (hm : most ≤ 18) (h : ∀ v, Lib.atoiAll d ≠ .ok v) : nmL most d = none := by
  cases e : nmL most d with
  | none => rfl
  | some n => exact absurd (ok_of_nm hm e).1 (h _)
/-- what gate.Number answers -/
def NumIs (most : Nat) (d : List UInt8) (e : Ending) : Prop := ∃ v : Int, e = .returned (.tuple #[.int .i64 v, .bool (nmL most d).isSome]) ∧ (∀ n, nmL most d = some n → v = n)
set_option maxRecDepth 100000 in
set_option maxHeartbeats 6400000 in
theorem number_any (E : Nat → Addr) (most : Nat) (d : List UInt8) (w : World) (hw : LibW E w) (hm : most ≤ 18) (hd : d.length ≤ 1000000000) :
    Calls Tryz.prog 110 #[.string (bs d), .int .i64 most] w fun e w' => NumIs most d e ∧ Below w.heap.size w w' := by
  have AT := Lib.hid (atoi_any E d w hd hw)
  have IT := Lib.hid (fun (n : Nat) (w' : World) (bl : Below w.heap.size w w') (hn : n ≤ 9223372036854775807) => itoa_any E n w' (hw.below bl) hn)
  have hdz : (bs d).size = d.length := bs_size d
  have HM := Lib.hid hm
  clear hw
  go_enter Tryz.func110, Tryz.ntmps110
  go_wp2_with fail
  refine AT.out.mono ?_
  rintro e w1 ⟨v, er, rfl, b1, hor⟩
  rcases hor with ⟨rfl, hok⟩ | ⟨⟨t, q, rfl⟩, hno⟩
  · have hbd := atoi_bd hok
    have HOK := Lib.hid hok
    clear hok
    by_cases h9 : d.length ≤ most
    · have h9I : decide (d.length ≤ most) = true := by simpa using h9
      have h9J : (d.length : Int) ≤ most := by omega
      by_cases hv : 0 ≤ v
      · obtain ⟨n, rfl⟩ := Int.eq_ofNat_of_zero_le hv
        have IT1 := Lib.hid (IT.out n _ b1 (by omega))
        clear IT AT
        go_wp2_with fail
        refine IT1.out.mono ?_
        rintro e w3 ⟨rfl, b3⟩
        have b03 := below_trans' b1 b3
        clear b3 b1 IT1
        by_cases hd2 : Lib.decDigits n = d
        · have HNM := Lib.hid (nm_of_ok (most := most) h9 hv (by show Lib.itoa (n : Int) = d; rw [Lib.itoa_nonneg]; exact hd2))
          have hq := bsl_eq d
          simp only [hd2]
          go_wp2_with fail
          go_ret2
          exact ⟨⟨n, by rw [HNM.out]; rfl, fun k hk => by rw [HNM.out] at hk; injection hk with hk; omega⟩, b03⟩
        · have HNM := Lib.hid (nm_none_ok HM.out HOK.out (fun h => hd2 (by rw [← Lib.itoa_nonneg]; exact h.2.2)))
          have hq := bsl_ne hd2
          go_wp2_with fail
          go_ret2
          exact ⟨⟨n, by rw [HNM.out]; rfl, fun k hk => by rw [HNM.out] at hk; cases hk⟩, b03⟩
      · have hvI : v < 0 := by omega
        have HNM := Lib.hid (nm_none_ok HM.out HOK.out (fun h => hv h.2.1))
        clear IT AT
        go_wp2_with fail
        go_ret2
        exact ⟨⟨v, by rw [HNM.out]; rfl, fun k hk => by rw [HNM.out] at hk; cases hk⟩, b1⟩
    · have h9I : decide (d.length ≤ most) = false := by simpa using h9
      have h9J : ¬ (d.length : Int) ≤ most := by omega
      have HNM := Lib.hid (nm_none_ok HM.out HOK.out (fun h => h9 h.1))
      clear IT AT
      go_wp2_with fail
      go_ret2
      exact ⟨⟨v, by rw [HNM.out]; rfl, fun k hk => by rw [HNM.out] at hk; cases hk⟩, b1⟩
  · have HNM := Lib.hid (nm_none_of' HM.out hno)
    clear hno IT AT
    go_wp2_with fail
    go_ret2
    exact ⟨⟨v, by rw [HNM.out]; rfl, fun k hk => by rw [HNM.out] at hk; cases hk⟩, b1⟩
end Go.Proofs.YtppkeophochgiaaGreatDoor
/- The document's IsName. -/
namespace Go.Proofs.YtppkeophochgiaaGreatDoor
open Go.RowKit
set_option linter.unusedVariables false
end Go.Proofs.YtppkeophochgiaaGreatDoor
