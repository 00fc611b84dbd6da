/- NumLists: numbers and texts that stand one behind the other are read one by one. -/
import Derived.Test.YtmpikgkaoafclaaDoorNum
import Derived.Test.YtmpikgkaoafclaaDoorNumBack
import Derived.Test.YtmpikgkaoafclaaDoorArgs
import Derived.Test.YtmpikgkaoafclaaDoorLaid
namespace Go.Proofs.YtmpikgkaoafclaaDoor
open Go.RowKit

theorem bs_append (a b : List UInt8) : bs a ++ bs b = bs (a ++ b) := eq_bs (by simp)
def numsL (l : List Int) : List UInt8 := l.flatMap fun n => num n.toNat
def textsL (l : List ByteArray) : List UInt8 := l.flatMap fun s => num s.size ++ s.data.toList
theorem numsL_nil : numsL [] = [] := rfl
theorem textsL_nil : textsL [] = [] := rfl
theorem numsL_append (a b : List Int) : numsL (a ++ b) = numsL a ++ numsL b := by simp [numsL]
theorem textsL_append (a b : List ByteArray) : textsL (a ++ b) = textsL a ++ textsL b := by simp [textsL]
theorem numsL_one (n : Int) : numsL [n] = num n.toNat := by simp [numsL]
theorem textsL_one (s : ByteArray) : textsL [s] = num s.size ++ s.data.toList := by simp [textsL]
theorem numsL_cons (n : Int) (l : List Int) : numsL (n :: l) = num n.toNat ++ numsL l := by simp [numsL]
theorem textsL_cons (s : ByteArray) (l : List ByteArray) : textsL (s :: l) = num s.size ++ s.data.toList ++ textsL l := by simp [textsL]
theorem numsL_len (l : List Int) : (numsL l).length ≤ 7 * l.length := by
  induction l with
  | nil => simp [numsL]
  | cons n l ih => rw [numsL_cons]; have := num_len n.toNat; simp; omega
theorem textsL_len (l : List ByteArray) (h : ∀ s ∈ l, s.size ≤ 100) : (textsL l).length ≤ 107 * l.length := by
  induction l with
  | nil => simp [textsL]
  | cons s l ih =>
    rw [textsL_cons]; have := num_len s.size; have h1 := h s (by simp); have h2 := ih (fun x hx => h x (by simp [hx]))
    have h3 : s.data.toList.length = s.size := by simp
    simp only [List.length_append, List.length_cons]; omega
theorem take_one {α} (l : List α) (k : Nat) (h : k < l.length) : l.take (k + 1) = l.take k ++ [l[k]] := List.take_succ_eq_append_getElem h
theorem drop_one {α} (l : List α) (k : Nat) (h : k < l.length) : l.drop k = l[k] :: l.drop (k + 1) := List.drop_eq_getElem_cons h
attribute [irreducible] numsL textsL
theorem cell_below {w w' : World} {a : Addr} {v : Value} (h : w.cell? a = some v) (hb : Below w.heap.size w w') : w'.cell? a = some v := (hb.cell (World.block_lt_of_cell? w _ h)).trans h

set_option maxRecDepth 100000 in
set_option maxHeartbeats 3200000 in
theorem numLists_walk (E : Nat → Addr) (s0 : Option Addr) (n0 c0 : Nat) (a0 : List Int) (s1 : Option Addr) (n1 c1 : Nat) (a1 : List ByteArray) (w : World)
    (hs0 : SliceIs w (.slice s0 n0 c0) 1 (a0.map (.int .i64)) ∧ ∀ n ∈ a0, (Lit.int .i64 n).wf = true) (hs1 : SliceIs w (.slice s1 n1 c1) 1 (a1.map .string) ∧ ∀ s ∈ a1, s.size ≤ maxLen)
    (hE : ∀ c ∈ [1, 2], Has E w c ∧ Sent w (E c)) (_ : ∀ c ∈ [1, 2], ∀ c' ∈ [1, 2], c ≠ c' → E c ≠ E c') :
    Calls Tryd.prog 4 #[.slice s0 n0 c0, .slice s1 n1 c1] w fun e w' => e = .returned (.bool true) ∧ Below w.heap.size w w' := by
  have h1 : Has E w 1 := (hE 1 (by simp)).1
  have h2 : Has E w 2 := (hE 2 (by simp)).1
  clear hE
  have NB := numbered_ok E w h1 h2
  have hlen0 : a0.length = n0 := by
    obtain ⟨s0', n0', c0', e1, e2, _, _, _⟩ := hs0.1.get
    cases e1
    simpa using e2
  have hlen1 : a1.length = n1 := by
    obtain ⟨s0', n0', c0', e1, e2, _, _, _⟩ := hs1.1.get
    cases e1
    simpa using e2
  subst hlen0
  subst hlen1
  have HS0 := Lib.hid hs0.1
  have HS1 := Lib.hid hs1.1
  have H1 := Lib.hid h1
  have H2 := Lib.hid h2
  clear hs0 hs1 h1 h2
  by_cases hn : a0.length ≤ 30 ∧ a1.length ≤ 30
  · obtain ⟨hn0, hn1⟩ := hn
    have hnI : ¬ (30 : Int) < a0.length := by omega
    have hnI1 : ¬ (30 : Int) < a1.length := by omega
    go_enter Tryd.func4, Tryd.ntmps4
    go_wp2_with (go_at_call 16; refine NB.mono ?_; rintro e w0 ⟨rfl, b0⟩)
    go_loopw [7, 6, 8, 9] (fun i s _ _ wr => ∃ k : Nat, i = .int .i64 k ∧ k ≤ a0.length ∧ s = .string (bs (numsL (a0.take k))) ∧ (∀ n ∈ a0.take k, 0 ≤ n ∧ n ≤ 1099511627776) ∧ Below w.heap.size w wr) (fun i _ _ _ _ => a0.length - (intOf i).toNat)
    case atStart => exact ⟨0, rfl, by omega, by simp [numsL_nil, bs_nil], by simp, b0⟩
    case round =>
      clear b0
      obtain ⟨k, rfl, hk, rfl, hall, bel⟩ := hrel
      by_cases hlt : k < a0.length
      · have hltI : (k : Int) < a0.length := by omega
        obtain ⟨s0', n0', c0', e1, _, _, _, g1⟩ := (HS0.out.below bel).get
        cases e1
        obtain ⟨a, rfl, hc⟩ := g1 k (.int .i64 a0[k]) (by simp)
        clear g1
        have KK := Lib.hid (show k + 1 ≤ a0.length by omega)
        have HTK := Lib.hid (take_one a0 k hlt)
        have HAL := Lib.hid hall
        have hlen := numsL_len (a0.take k)
        have hlen2 : (a0.take k).length ≤ 30 := by simp; omega
        generalize a0[k] = x at hc HTK
        have x1 : (0 : Int) ≤ k := by omega
        have x2 : (k : Int).toNat = k := by omega
        clear hall
        by_cases hx : 0 ≤ x ∧ x ≤ 1099511627776
        · have e1 : putC x = 0 ∧ putL x = num x.toNat := putC_yes hx
          have PN := put_any E x wr (H2.out.below bel)
          rw [e1.1, e1.2, ev_zero] at PN
          have HPN := Lib.hid PN
          have hxl := num_len x.toNat
          have hcat : ¬ 9223372036854775807 < (numsL (a0.take k)).length + (num x.toNat).length := by omega
          clear e1 PN
          go_wp2_with (go_at_call 17; refine HPN.out.mono ?_; rintro e w1 ⟨rfl, b1⟩)
          go_roundw
          case rel => exact ⟨k + 1, by go_num, KK.out, by rw [bs_append, HTK.out, numsL_append, numsL_one], by
              rw [HTK.out]; intro n hn; rcases List.mem_append.1 hn with h | h
              · exact HAL.out n h
              · simp at h; subst h; exact hx, below_trans' bel b1⟩
          case measure => simp [intOf]; omega
        · have e1 : putC x = 2 ∧ putL x = [] := putC_no hx
          have PN := put_any E x wr (H2.out.below bel)
          rw [e1.1, e1.2, ev_pos E (by decide)] at PN
          have HPN := Lib.hid PN
          clear e1 PN
          have HC := Lib.hid hc
          have hno : x < 0 ∨ ¬ x < 0 ∧ 1099511627776 < x := by omega
          clear hx
          rcases hno with h | ⟨h, h'⟩
          all_goals
            go_wp2_with (go_at_call 17; refine HPN.out.mono ?_; rintro e w1 ⟨rfl, b1⟩; have hc2 := cell_below HC.out b1)
            go_ret
            exact ⟨by first | rfl | exact ret_bool (by simp [*]), below_trans' bel b1⟩
      · have hltI : ¬ (k : Int) < a0.length := by omega
        have hkl : k = a0.length := by omega
        have hall' : ∀ n ∈ a0, 0 ≤ n ∧ n ≤ 1099511627776 := by simpa [hkl] using hall
        have htk : a0.take k = a0 := by simp [hkl]
        rw [htk]
        have HAL := Lib.hid hall'
        have hl0 := numsL_len a0
        clear hall hall' hkl htk
        go_wp2_with fail
        go_loopw [10, 6, 11, 12] (fun i s _ _ wr => ∃ k : Nat, i = .int .i64 k ∧ k ≤ a1.length ∧ s = .string (bs (numsL a0 ++ textsL (a1.take k))) ∧ (∀ s ∈ a1.take k, s.size ≤ 100) ∧ Below w.heap.size w wr) (fun i _ _ _ _ => a1.length - (intOf i).toNat)
        case atStart => exact ⟨0, rfl, by omega, by simp [textsL_nil], by simp, bel⟩
        case round =>
          clear bel
          clear hlt hltI hk
          obtain ⟨j, rfl, hj, rfl, hall, bel⟩ := hrel
          by_cases hlt : j < a1.length
          · have hltI : (j : Int) < a1.length := by omega
            obtain ⟨s0', n0', c0', e1, _, _, _, g1⟩ := (HS1.out.below bel).get
            cases e1
            obtain ⟨a, rfl, hc⟩ := g1 j (.string a1[j]) (by simp)
            clear g1
            have KK := Lib.hid (show j + 1 ≤ a1.length by omega)
            have HTK := Lib.hid (take_one a1 j hlt)
            have HAL1 := Lib.hid hall
            have hlen := textsL_len (a1.take j) hall
            have hlen2 : (a1.take j).length ≤ 30 := by simp; omega
            generalize a1[j] = x at hc HTK
            have x1 : (0 : Int) ≤ j := by omega
            have x2 : (j : Int).toNat = j := by omega
            clear hall
            by_cases hx : x.size ≤ 100
            · have hxI : ¬ (100 : Int) < x.size := by omega
              have PN := ptext_any E x wr (by omega) (H2.out.below bel)
              have e1 := ptC_yes (l := x.data.toList) (by simp; omega)
              have e3 : x.data.toList.length = x.size := by simp
              rw [e1.1, e1.2, ev_zero, e3] at PN
              have HPN := Lib.hid PN
              have hxl := num_len x.size
              have hcat : ¬ 9223372036854775807 < (numsL a0 ++ textsL (a1.take j)).length + (num x.size ++ x.data.toList).length := by simp only [List.length_append]; omega
              simp only [List.length_append] at hcat
              clear e1 e3 PN
              go_wp2_with (go_at_call 18; refine HPN.out.mono ?_; rintro e w1 ⟨rfl, b1⟩)
              go_roundw
              case rel => exact ⟨j + 1, by go_num, KK.out, by rw [bs_append, HTK.out, textsL_append, textsL_one, List.append_assoc], by
                  rw [HTK.out]; intro n hn; rcases List.mem_append.1 hn with h | h
                  · exact HAL1.out n h
                  · simp at h; subst h; exact hx, below_trans' bel b1⟩
              case measure => simp [intOf]; omega
            · have hxI : (100 : Int) < x.size := by omega
              go_wp2_with fail
              go_ret
              exact ⟨rfl, bel⟩
          · have hltI : ¬ (j : Int) < a1.length := by omega
            have hkl : j = a1.length := by omega
            have hall' : ∀ s ∈ a1, s.size ≤ 100 := by simpa [hkl] using hall
            have htk : a1.take j = a1 := by simp [hkl]
            rw [htk]
            have hl1 := textsL_len a1 hall'
            have HAL1 := Lib.hid hall'
            clear hall hall' hkl htk
            go_wp2_with fail
            go_loopw [13, 6, 14, 15, 16] (fun i s _ _ _ wr => ∃ k : Nat, i = .int .i64 k ∧ k ≤ a0.length ∧ s = .string (bs (numsL (a0.drop k) ++ textsL a1)) ∧ Below w.heap.size w wr) (fun i _ _ _ _ _ => a0.length - (intOf i).toNat)
            case atStart => exact ⟨0, rfl, by omega, by simp, bel⟩
            case round =>
              clear bel hlt hltI hj
              obtain ⟨k, rfl, hk, rfl, bel⟩ := hrel
              by_cases hlt : k < a0.length
              · have hltI : (k : Int) < a0.length := by omega
                obtain ⟨s0', n0', c0', e1, _, _, _, g1⟩ := (HS0.out.below bel).get
                cases e1
                obtain ⟨a, rfl, hc⟩ := g1 k (.int .i64 a0[k]) (by simp)
                clear g1
                have KK := Lib.hid (show k + 1 ≤ a0.length by omega)
                have hx := HAL.out _ (List.getElem_mem hlt)
                have hdr := drop_one a0 k hlt
                have hdl := numsL_len (a0.drop (k + 1))
                have hdl2 : (a0.drop (k + 1)).length ≤ 30 := by simp; omega
                rw [hdr]
                generalize a0[k] = x at hc hx ⊢
                have x1 : (0 : Int) ≤ k := by omega
                have x2 : (k : Int).toNat = k := by omega
                have G : Calls Tryd.prog 19 #[.string (bs (numsL (x :: a0.drop (k + 1)) ++ textsL a1))] wr fun e w'' => e = .returned (.tuple #[.int .i64 x, .string (bs (numsL (a0.drop (k + 1)) ++ textsL a1)), .nilIface]) ∧ Drew wr w'' := by
                  have hxt : ((x.toNat : Nat) : Int) = x := by omega
                  have := get_any E (bs (numsL (x :: a0.drop (k + 1)) ++ textsL a1)) wr (by rw [numsL_cons]; have := num_len x.toNat; simp only [bs_size, List.length_append]; omega) (H1.out.below bel) (H2.out.below bel)
                  have hxn : x.toNat ≤ 1099511627776 := by omega
                  rw [bs_list, numsL_cons, List.append_assoc, gN_num _ _ hxn, gR_num _ _ hxn, gC_num _ _ hxn, ev_zero, hxt] at this
                  rw [numsL_cons, List.append_assoc]
                  exact this
                have HC := Lib.hid hc
                have HG := Lib.hid G
                clear hdr G hc hx hdl hdl2
                go_wp2_with (go_at_call 19; refine HG.out.mono ?_; rintro e w1 ⟨rfl, b1⟩; have hc := cell_below HC.out (b1.below _))
                go_roundw
                case rel => exact ⟨k + 1, by go_num, KK.out, rfl, below_trans' bel (b1.below _)⟩
                case measure => simp [intOf]; omega
              · have hltI : ¬ (k : Int) < a0.length := by omega
                have hkl : k = a0.length := by omega
                have hd : numsL (a0.drop k) ++ textsL a1 = textsL a1 := by simp [hkl, numsL_nil]
                rw [hd]
                clear hd hkl
                go_wp2_with fail
                go_loopw [17, 6, 18, 19, 20] (fun i s _ _ _ wr => ∃ k : Nat, i = .int .i64 k ∧ k ≤ a1.length ∧ s = .string (bs (textsL (a1.drop k))) ∧ Below w.heap.size w wr) (fun i _ _ _ _ _ => a1.length - (intOf i).toNat)
                case atStart => exact ⟨0, rfl, by omega, by simp, bel⟩
                case round =>
                  clear bel hlt hltI hk
                  obtain ⟨k, rfl, hk, rfl, bel⟩ := hrel
                  by_cases hlt : k < a1.length
                  · have hltI : (k : Int) < a1.length := by omega
                    obtain ⟨s0', n0', c0', e1, _, _, _, g1⟩ := (HS1.out.below bel).get
                    cases e1
                    obtain ⟨a, rfl, hc⟩ := g1 k (.string a1[k]) (by simp)
                    clear g1
                    have KK := Lib.hid (show k + 1 ≤ a1.length by omega)
                    have hx := HAL1.out _ (List.getElem_mem hlt)
                    have hdr := drop_one a1 k hlt
                    have hdl := textsL_len (a1.drop (k + 1)) (fun s hs => HAL1.out s (List.mem_of_mem_drop hs))
                    have hdl2 : (a1.drop (k + 1)).length ≤ 30 := by simp; omega
                    rw [hdr]
                    generalize a1[k] = x at hc hx ⊢
                    have x1 : (0 : Int) ≤ k := by omega
                    have x2 : (k : Int).toNat = k := by omega
                    have G : Calls Tryd.prog 20 #[.string (bs (textsL (x :: a1.drop (k + 1))))] wr fun e w'' => e = .returned (.tuple #[.string x, .string (bs (textsL (a1.drop (k + 1)))), .nilIface]) ∧ Drew wr w'' := by
                      have hxt : x.data.toList.length = x.size := by simp
                      have := gtext_any E (bs (textsL (x :: a1.drop (k + 1)))) wr (by rw [textsL_cons]; have := num_len x.size; simp only [bs_size, List.length_append]; omega) (H1.out.below bel) (H2.out.below bel)
                      have t := t_text x.data.toList (textsL (a1.drop (k + 1))) (by omega)
                      rw [hxt] at t
                      rw [bs_list, textsL_cons, t.1, t.2.1, t.2.2, ev_zero, bs_of] at this
                      rw [textsL_cons]
                      exact this
                    have HC := Lib.hid hc
                    have HG := Lib.hid G
                    clear hdr G hc hx hdl hdl2
                    go_wp2_with (go_at_call 20; refine HG.out.mono ?_; rintro e w1 ⟨rfl, b1⟩; have hc := cell_below HC.out (b1.below _))
                    go_roundw
                    case rel => exact ⟨k + 1, by go_num, KK.out, rfl, below_trans' bel (b1.below _)⟩
                    case measure => simp [intOf]; omega
                  · have hltI : ¬ (k : Int) < a1.length := by omega
                    have hkl : k = a1.length := by omega
                    have hd : textsL (a1.drop k) = [] := by simp [hkl, textsL_nil]
                    rw [hd]
                    clear hd hkl
                    go_wp2_with fail
                    go_ret
                    exact ⟨ret_bool (by simp [ByteArray.toList_eq]), bel⟩
  · have hno : (30 : Int) < a0.length ∨ ¬ (30 : Int) < a0.length ∧ (30 : Int) < a1.length := by omega
    clear hn
    rcases hno with h | ⟨h, h'⟩
    all_goals
      go_enter Tryd.func4, Tryd.ntmps4
      go_wp2_with (go_at_call 16; refine NB.mono ?_; rintro e w0 ⟨rfl, b0⟩)
      go_ret
      exact ⟨rfl, b0⟩
end Go.Proofs.YtmpikgkaoafclaaDoor
