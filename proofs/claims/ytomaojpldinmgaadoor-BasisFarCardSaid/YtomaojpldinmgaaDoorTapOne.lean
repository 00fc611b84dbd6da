/- Contract of tape.one: the record at the beginning of a text. -/
import Derived.Test.YtomaojpldinmgaaDoorTapPlain
import Derived.Test.YtomaojpldinmgaaDoorLibW
import Derived.Test.YtomaojpldinmgaaDoorAids
namespace Go.Proofs.YtomaojpldinmgaaDoor
open Go.RowKit
set_option linter.unusedVariables false

theorem atoi_any (E : Nat → Addr) (d : List UInt8) (w : World) (hd : d.length ≤ 1000000000) (hw : LibW E w) :
    Calls Tryd.prog 42 #[.string (bs d)] w fun e w' => ∃ v er, e = .returned (.tuple #[.int .i64 v, er]) ∧ Below w.heap.size w w' ∧ (er = .nilIface ∧ Lib.atoiAll d = .ok v ∨ (∃ t p, er = .iface t p) ∧ ∀ v, Lib.atoiAll d ≠ .ok v) := by
  by_cases h : ∃ v, Lib.atoiAll d = .ok v
  · obtain ⟨v, hv⟩ := h
    refine (atoi_yes E d v w hd hv).mono ?_
    rintro e w' ⟨rfl, b⟩
    exact ⟨v, _, rfl, b, .inl ⟨rfl, hv⟩⟩
  · have h' : ∀ v, Lib.atoiAll d ≠ .ok v := fun v hv => h ⟨v, hv⟩
    refine (atoi_no E d w hd hw h').mono ?_
    rintro e w' ⟨v, t, p, rfl, b⟩
    exact ⟨v, _, rfl, b, .inr ⟨⟨t, p, rfl⟩, h'⟩⟩
theorem one_cut {b : List UInt8} (h : cutC 58 b = none) : oneL b = none := by unfold oneL; rw [h]
theorem one_num {b : List UInt8} {p : List UInt8 × List UInt8} (h : cutC 58 b = some p) (hn : nmL 9 p.1 = none) : oneL b = none := by unfold oneL; rw [h]; simp only; rw [hn]
theorem one_if {b : List UInt8} {p : List UInt8 × List UInt8} {n : Nat} (h : cutC 58 b = some p) (hn : nmL 9 p.1 = some n) : oneL b = if n ≤ 20000 ∧ n + 2 ≤ p.2.length ∧ (p.2.drop n).take 2 = [10, 46] then some (p.2.take n) else none := by unfold oneL; rw [h]; simp only; rw [hn]
theorem nm_none_of {d : List UInt8} (h : ∀ v, Lib.atoiAll d ≠ .ok v) : nmL 9 d = none := by
  cases e : nmL 9 d with
  | none => rfl
  | some n => exact absurd (ok_of_nm (by decide) e).1 (h _)
theorem nm_none_ok {most : Nat} {d : List UInt8} {v : Int} (hm : most ≤ 18) (ha : Lib.atoiAll d = .ok v) (h : ¬ (d.length ≤ most ∧ 0 ≤ v ∧ Lib.itoa v = d)) : nmL most d = none := by
  cases e : nmL most d with
  | none => rfl
  | some n =>
    obtain ⟨h1, h2, h3⟩ := ok_of_nm hm e
    rw [ha] at h1
    injection h1 with h1
    subst h1
    exact absurd ⟨h2, by omega, h3⟩ h
theorem bsl_ne {a b : List UInt8} (h : a ≠ b) : ((bs a).toList == (bs b).toList) = false := by simp [ByteArray.toList_eq, h]
theorem bsl_eq (a : List UInt8) : ((bs a).toList == (bs a).toList) = true := by simp
/-- the sentence's bound on an Atoi's value -/
theorem atoi_bd {d : List UInt8} {v : Int} (h : Lib.atoiAll d = .ok v) : -9223372036854775808 ≤ v ∧ v ≤ 9223372036854775807 := Lib.atoiAll_bounds h
theorem bs_none : bs ((none : Option (List UInt8)).getD []) = ⟨#[]⟩ := bs_nil
theorem bs_mk58 : (⟨#[58]⟩ : ByteArray).data.toList = [58] := rfl
set_option maxRecDepth 100000 in
set_option maxHeartbeats 6400000 in
theorem one_any (E : Nat → Addr) (b : List UInt8) (w : World) (hw : LibW E w) (hb : b.length ≤ 1000000000) :
    Calls Tryd.prog 30 #[.string (bs b)] w fun e w' => e = .returned (.tuple #[.string (bs ((oneL b).getD [])), .bool (oneL b).isSome]) ∧ Below w.heap.size w w' := by
  have CT := Lib.hid (scut_any E 58 ⟨#[58]⟩ bs_mk58 b w hb hw)
  have AT := Lib.hid (fun (w' : World) (bl : Below w.heap.size w w') => atoi_any E (cutA 58 b) w' (Nat.le_trans (cutA_len 58 b) hb) (hw.below bl))
  have IT := Lib.hid (fun (n : Nat) (w' : World) (bl : Below w.heap.size w w') (hn : n ≤ 9223372036854775807) => itoa_any E n w' (hw.below bl) hn)
  have hAl := cutA_len 58 b
  have hBl := cutB_len 58 b
  have HCA : Hid (∀ p, cutC 58 b = some p → cutA 58 b = p.1 ∧ cutB 58 b = p.2) := fun p hp => by unfold cutA cutB; rw [hp]; exact ⟨rfl, rfl⟩
  have HON := Lib.hid (fun h => one_cut (b := b) h)
  clear hw
  cases hc : cutC 58 b with
  | none =>
    rw [HON.out hc]
    have CT' := CT.out
    rw [hc] at CT'
    clear hc HON CT HCA hAl hBl
    have CT2 := Lib.hid CT'
    clear CT'
    generalize cutA 58 b = dA at *
    generalize cutB 58 b = dB at *
    go_enter Tryd.func30, Tryd.ntmps30
    go_wp2_with fail
    refine CT2.out.mono ?_
    rintro e w1 ⟨rfl, b1⟩
    go_wp2_with fail
    refine (AT.out _ b1).mono ?_
    rintro e w2 ⟨v, er, rfl, b2, _⟩
    go_wp2_with fail
    go_ret2
    exact ⟨by rw [bs_none]; rfl, below_trans' b1 b2⟩
  | some p =>
    obtain ⟨eA, eB⟩ := HCA.out p hc
    have CT' := CT.out
    rw [hc, eA, eB] at CT'
    have AT' := AT.out
    rw [eA] at AT'
    rw [eA] at hAl
    rw [eB] at hBl
    have HC := Lib.hid hc
    have CT2 := Lib.hid CT'
    have AT2 := Lib.hid AT'
    obtain ⟨d, rest⟩ := p
    clear hc HON CT HCA CT' AT AT' eA eB
    simp only at CT2 AT2 hAl hBl
    have hdz : (bs d).size = d.length := bs_size d
    have hrz : (bs rest).size = rest.length := bs_size rest
    go_enter Tryd.func30, Tryd.ntmps30
    go_wp2_with fail
    refine CT2.out.mono ?_
    rintro e w1 ⟨rfl, b1⟩
    go_wp2_with fail
    refine (AT2.out _ b1).mono ?_
    rintro e w2 ⟨v, er, rfl, b2, hor⟩
    have b02 := below_trans' b1 b2
    clear CT2 AT2 b1 b2
    rcases hor with ⟨rfl, hok⟩ | ⟨⟨t, q, rfl⟩, hno⟩
    · have hbd := atoi_bd hok
      have HOK := Lib.hid hok
      clear hok
      by_cases h9 : d.length ≤ 9
      · have h9I : (d.length : Int) ≤ 9 := by omega
        by_cases hv : 0 ≤ v
        · obtain ⟨n, rfl⟩ := Int.eq_ofNat_of_zero_le hv
          go_wp2_with fail
          refine (IT.out n _ b02 (by omega)).mono ?_
          rintro e w3 ⟨rfl, b3⟩
          have b03 := below_trans' b02 b3
          clear b3 b02 IT
          by_cases hd : Lib.decDigits n = d
          · have hnm := nm_of_ok (most := 9) h9 hv (by show Lib.itoa (n : Int) = d; rw [Lib.itoa_nonneg]; exact hd)
            have HIF := Lib.hid (one_if HC.out hnm)
            have hq := bsl_eq d
            simp only [hd]
            rw [Int.toNat_natCast] at HIF
            clear hnm hd HC HOK
            by_cases hn : n ≤ 20000
            · have hnI : ¬ (20000 : Int) < n := by omega
              by_cases hr : n + 2 ≤ rest.length
              · have hrI : ¬ (rest.length : Int) < (n : Int) + 2 := by omega
                have hw1 : IntKind.i64.wrap ((n : Int) + 2) = (n : Int) + 2 := IntWalk.i64_in _ (by omega)
                have y1 : (0 : Int) ≤ n := by omega
                have y2 : (n : Int) ≤ (n : Int) + 2 := by omega
                have y3 : (n : Int) + 2 ≤ rest.length := by omega
                have y4 : ((n : Int) + 2).toNat = n + 2 := by omega
                have y5 : (n : Int).toNat = n := by omega
                have hT : ((bs rest).extract n (n + 2)).toList = (rest.drop n).take 2 := by
                  rw [ByteArray.toList_eq, Lib.extract_data, bs_list, show n + 2 - n = 2 by omega]
                by_cases hx : (rest.drop n).take 2 = [10, 46]
                · have hb : (((bs rest).extract n (n + 2)).toList == [10, 46]) = true := by rw [hT, hx]; rfl
                  have EX : (bs rest).extract 0 n = bs (rest.take n) := by rw [bs_take, bs_list]
                  have HE := Lib.hid EX
                  have HX := Lib.hid hx
                  clear hT EX hx
                  go_wp2_with fail
                  go_ret2
                  exact ⟨by rw [HIF.out, if_pos ⟨hn, hr, HX.out⟩, Option.getD_some, ← HE.out]; rfl, b03⟩
                · have hb : (((bs rest).extract n (n + 2)).toList == [10, 46]) = false := by rw [hT, beq_eq_false_iff_ne]; exact hx
                  have HX := Lib.hid hx
                  clear hT hx
                  go_wp2_with fail
                  go_ret2
                  exact ⟨by rw [HIF.out, if_neg (fun h => HX.out h.2.2), bs_none]; rfl, b03⟩
              · have hrI : (rest.length : Int) < (n : Int) + 2 := by omega
                have hw1 : IntKind.i64.wrap ((n : Int) + 2) = (n : Int) + 2 := IntWalk.i64_in _ (by omega)
                go_wp2_with fail
                go_ret2
                exact ⟨by rw [HIF.out, if_neg (fun h => hr h.2.1), bs_none]; rfl, b03⟩
            · have hnI : (20000 : Int) < n := by omega
              go_wp2_with fail
              go_ret2
              exact ⟨by rw [HIF.out, if_neg (fun h => hn h.1), bs_none]; rfl, b03⟩
          · have HN := Lib.hid (one_num HC.out (nm_none_ok (most := 9) (by decide) HOK.out (fun h => hd (by rw [← Lib.itoa_nonneg]; exact h.2.2))))
            have hq := bsl_ne hd
            clear hd HC HOK
            go_wp2_with fail
            go_ret2
            exact ⟨by rw [HN.out, bs_none]; rfl, b03⟩
        · have HN := Lib.hid (one_num HC.out (nm_none_ok (most := 9) (by decide) HOK.out (fun h => hv h.2.1)))
          go_wp2_with fail
          go_ret2
          exact ⟨by rw [HN.out, bs_none]; rfl, b02⟩
      · have h9I : ¬ (d.length : Int) ≤ 9 := by omega
        have HN := Lib.hid (one_num HC.out (nm_none_ok (most := 9) (by decide) HOK.out (fun h => h9 h.1)))
        go_wp2_with fail
        go_ret2
        exact ⟨by rw [HN.out, bs_none]; rfl, b02⟩
    · have HN := Lib.hid (one_num HC.out (nm_none_of hno))
      clear hno
      go_wp2_with fail
      go_ret2
      exact ⟨by rw [HN.out, bs_none]; rfl, b02⟩
end Go.Proofs.YtomaojpldinmgaaDoor
