/- The document's (*Receiver).place. -/
import Derived.Test.YtnjkopjbognpiaaDoorRefWin
import Derived.Test.YtnjkopjbognpiaaDoorAids
namespace Go.Proofs.YtnjkopjbognpiaaDoor
open Go.RowKit
set_option linter.unusedVariables false

/-- the place of a number, or -1 -/
def plI : List Int → Int → Int → Int
  | [], _, _ => -1
  | x :: l, n, k => if x = n then k else plI l n (k + 1)
theorem plI_end {l : List Int} {n : Int} {k : Nat} {j : Int} (h : l.length ≤ k) : plI (l.drop k) n j = -1 := by rw [List.drop_of_length_le h]; rfl
theorem plI_yes {l : List Int} {n : Int} {k : Nat} {j : Int} (h : k < l.length) (e : (l[k]'h) = n) : plI (l.drop k) n j = j := by
  rw [List.drop_eq_getElem_cons h, plI, if_pos e]
theorem plI_no {l : List Int} {n : Int} {k : Nat} {j : Int} (h : k < l.length) (e : (l[k]'h) ≠ n) : plI (l.drop k) n j = plI (l.drop (k + 1)) n (j + 1) := by
  rw [List.drop_eq_getElem_cons h, plI, if_neg e]
theorem ints_get (l : List Int) (k : Nat) (h : k < l.length) : (l.map (Value.int .i64))[k]? = some (.int .i64 (l[k]'h)) := by
  rw [List.getElem?_map, List.getElem?_eq_getElem h]; rfl
set_option maxRecDepth 100000 in
set_option maxHeartbeats 3200000 in
theorem place_any (rb : Nat) (vN vD : Value) (due : Int) (l : List Int) (n : Int) (w : World) (hc : w.heap[rb]? = some (.cells #[.int .i64 due, vN, vD] 37 (0, 0))) (hN : SliceIs w vN 1 (l.map (Value.int .i64))) :
    Calls Tryd.prog 32 #[.pointer (some ⟨rb, 0, none⟩), .int .i64 n] w fun e w' => e = .returned (.int .i64 (plI l n 0)) ∧ w' = w := by
  obtain ⟨s, m, c, rfl, hn, h1, h2, hg⟩ := hN.get
  rw [List.length_map, Nat.mul_one] at hn
  subst hn
  unfold maxLen at h2
  have HSL := Lib.hid hN
  have c1 : w.cell? ⟨rb, 1, none⟩ = some (.slice s l.length c) := by simp [World.cell?, hc]
  clear hN hg hc
  go_enter Tryd.func32, Tryd.ntmps32
  go_wp2_with fail
  go_loopw [5] (fun i wr => ∃ k : Nat, i = .int .i64 k ∧ k ≤ l.length ∧ plI l n 0 = plI (l.drop k) n k ∧ wr = w) (fun i _ => l.length - (intOf i).toNat)
  case atStart => exact ⟨0, rfl, by omega, rfl, rfl⟩
  case round =>
    obtain ⟨k, rfl, hk, hr, rfl⟩ := hrel
    have HR := Lib.hid hr
    clear hr
    by_cases hlt : k < l.length
    · have hltI : (k : Int) < l.length := by omega
      obtain ⟨s0', n0', c0', e1, _, _, _, g1⟩ := (HSL.out).get
      cases e1
      obtain ⟨ad, rfl, d0⟩ := g1 _ _ (ints_get l k hlt)
      clear g1
      have YES := Lib.hid (fun e => HR.out.trans (plI_yes (j := k) hlt e))
      have NO := Lib.hid (fun e => HR.out.trans (plI_no (j := k) hlt e))
      have KK := Lib.hid (show k + 1 ≤ l.length from hlt)
      have x1 : (0 : Int) ≤ k := by omega
      have x2 : (k : Int).toNat = k := by omega
      generalize l[k]'hlt = x at d0 YES NO
      by_cases hx : x = n
      · have hb : (x == n) = true := by rw [beq_iff_eq]; exact hx
        have Y := Lib.hid (YES.out hx)
        clear YES NO hx
        go_wp2_with fail
        go_ret
        exact ⟨by rw [Y.out]; rfl, by trivial⟩
      · have hb : (x == n) = false := by rw [beq_eq_false_iff_ne]; exact hx
        have Y := Lib.hid (NO.out hx)
        clear YES NO
        go_wp2_with fail
        go_roundw
        case rel => exact ⟨k + 1, by go_num, KK.out, by rw [Y.out]; rfl, by trivial⟩
        case measure => simp [intOf]; omega
    · have hltI : ¬ (k : Int) < l.length := by omega
      have Y := Lib.hid (HR.out.trans (plI_end (n := n) (j := k) (show l.length ≤ k by omega)))
      clear HR
      go_wp2_with fail
      go_ret
      exact ⟨by rw [Y.out]; rfl, by trivial⟩
end Go.Proofs.YtnjkopjbognpiaaDoor
