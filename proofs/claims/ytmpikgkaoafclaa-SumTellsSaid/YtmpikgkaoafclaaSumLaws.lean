/- The walks of the laws SumTells and SumJoins. -/
import Derived.Test.YtmpikgkaoafclaaSumJoin
namespace Go.Proofs.Ytmpikgkaoafclaa
open Go.RowKit

set_option maxHeartbeats 1600000 in
theorem sumTells_walk (s : ByteArray) (a b : Nat) (n : Int) (w : World) (ha : a < 4294967296) (hb : b < 4294967296) :
    Calls Try.prog 6 #[.string s, .int .u32 a, .int .u32 b, .int .i64 n] w fun e w' => e = .returned (.bool true) ∧ Below w.heap.size w w' := by
  by_cases h : s.size ≤ 300 ∧ n ≤ 2000
  · obtain ⟨h1, h2⟩ := h
    have hl1 := csum_lt s.data.toList
    have hl2 := cmore_lt ha s.data.toList
    have hl3 := xor_lt32 (citer_lt (8 * n.toNat) ha) hb
    go_enter Try.func6, Try.ntmps6
    go_wp2_with fail
    refine (summed_any _).mono ?_
    rintro e w1 ⟨rfl, hb1⟩
    go_wp2_with (first | (go_at_call 18; refine (sum_any _ _ (by omega)).mono ?_; rintro e w' ⟨rfl, rfl⟩) | (go_at_call 19; refine (sumOf_any _ _ (by omega)).mono ?_; rintro e w' ⟨rfl, rfl⟩) | (go_at_call 20; refine (more_any _ _ _ ha (by omega)).mono ?_; rintro e w' ⟨rfl, rfl⟩) | (go_at_call 21; refine (moreOf_any _ _ _ ha (by omega)).mono ?_; rintro e w' ⟨rfl, rfl⟩))
    refine (sumJoin_any _ _ _ _ ha hb (by omega)).mono ?_
    rintro e w2 ⟨rfl, hb2⟩
    go_wp2_with fail
    refine (joinSums_any _ _ _ _ ha hb (by omega)).mono ?_
    rintro e w3 ⟨rfl, rfl⟩
    go_wp2_with fail
    go_ret
    exact ⟨rfl, below_trans' hb1 hb2⟩
  · have h' : 300 < s.size ∨ 2000 < n := by omega
    go_enter Try.func6, Try.ntmps6
    go_wp2_with fail
    refine (summed_any _).mono ?_
    rintro e w1 ⟨rfl, hb1⟩
    go_wp2_with fail
    all_goals first | (go_ret; exact ⟨rfl, hb1⟩) | (exfalso; omega)

theorem sumJoin_texts (s t : List UInt8) (n : Int) (w : World) (h : n = t.length) (h2 : n ≤ 100000) :
    Calls Try.prog 22 #[.int .u32 (csum s), .int .u32 (csum t), .int .i64 n] w fun e w' => e = .returned (.int .u32 (csum (s ++ t))) ∧ Below w.heap.size w w' := by
  have := sumJoin_any (csum s) (csum t) n w (csum_lt s) (csum_lt t) (by omega)
  rwa [join_csum s t n h] at this
theorem sumJoin_zero (a : Nat) (n : Int) (w : World) (ha : a < 4294967296) (h : n ≤ 0) :
    Calls Try.prog 22 #[.int .u32 a, .int .u32 0, .int .i64 n] w fun e w' => e = .returned (.int .u32 a) ∧ Below w.heap.size w w' := by
  have := sumJoin_any a 0 n w ha (by omega) (by omega)
  have hz : n.toNat = 0 := by omega
  rw [hz, Nat.mul_zero, Nat.xor_zero] at this
  simpa [citer] using this
theorem more_texts (s : List UInt8) (t : ByteArray) (w : World) (h : t.size ≤ 100000) :
    Calls Try.prog 20 #[.int .u32 (csum s), .string t] w fun e w' => e = .returned (.int .u32 (csum (s ++ t.data.toList))) ∧ w = w' := by
  have := more_any (csum s) t w (csum_lt s) h
  have e : cmore (csum s) t.data.toList = csum (s ++ t.data.toList) := by
    unfold csum; rw [cmore_append]
  rwa [e] at this

set_option maxHeartbeats 1600000 in
theorem sumJoins_walk (s t u : ByteArray) (w : World) :
    Calls Try.prog 7 #[.string s, .string t, .string u] w fun e w' => e = .returned (.bool true) ∧ Below w.heap.size w w' := by
  by_cases h : s.size ≤ 300 ∧ t.size ≤ 300 ∧ u.size ≤ 300
  · obtain ⟨h1, h2, h3⟩ := h
    have hst : (s ++ t ++ u).size ≤ 100000 := by simp; omega
    go_enter Try.func7, Try.ntmps7
    go_wp2_with fail
    refine (summed_any _).mono ?_
    rintro e w1 ⟨rfl, hb1⟩
    go_wp2_with (go_at_call 18; refine (sum_any _ _ (by first | omega | assumption)).mono ?_; rintro e w' ⟨rfl, rfl⟩)
    refine (sumJoin_texts _ _ _ _ (by simp) (by omega)).mono ?_
    rintro e w2 ⟨rfl, hb2⟩
    go_wp2_with fail
    refine (sumJoin_texts _ _ _ _ (by simp) (by omega)).mono ?_
    rintro e w3 ⟨rfl, hb3⟩
    go_wp2_with fail
    refine (sumJoin_texts _ _ _ _ (by simp) (by omega)).mono ?_
    rintro e w4 ⟨rfl, hb4⟩
    go_wp2_with fail
    refine (sumJoin_texts _ _ _ _ (by simp) (by omega)).mono ?_
    rintro e w5 ⟨rfl, hb5⟩
    go_wp2_with (go_at_call 20; refine (more_texts _ _ _ (by first | omega | decide)).mono ?_; rintro e w' ⟨rfl, rfl⟩)
    refine (sumJoin_zero _ _ _ (csum_lt _) (by omega)).mono ?_
    rintro e w6 ⟨rfl, hb6⟩
    go_wp2_with fail
    refine (sumJoin_zero _ _ _ (csum_lt _) (by omega)).mono ?_
    rintro e w7 ⟨rfl, hb7⟩
    go_wp2_with (go_at_call 20; refine (more_texts _ _ _ (by first | omega | decide)).mono ?_; rintro e w' ⟨rfl, rfl⟩)
    go_ret
    exact ⟨ret_bool (by simp), below_trans' (below_trans' (below_trans' (below_trans' (below_trans' (below_trans' hb1 hb2) hb3) hb4) hb5) hb6) hb7⟩
  · have h' : 300 < s.size ∨ 300 < t.size ∨ 300 < u.size := by omega
    go_enter Try.func7, Try.ntmps7
    go_wp2_with fail
    refine (summed_any _).mono ?_
    rintro e w1 ⟨rfl, hb1⟩
    go_wp2_with fail
    all_goals first | (go_ret; exact ⟨rfl, hb1⟩) | (exfalso; omega)
end Go.Proofs.Ytmpikgkaoafclaa
