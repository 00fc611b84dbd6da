/- The walk of the law WeakRolls. -/
import Derived.Test.YtmpikgkaoafclaaWeak
import Derived.Test.YtmpikgkaoafclaaLib
import Derived.Outline
namespace Go.Proofs.Ytmpikgkaoafclaa
open Go.RowKit

theorem rolls_eq (s : ByteArray) (c : UInt8) (h : 0 < s.size) (h2 : s.size ≤ 300) :
    rollZ (ws s.data.toList) s.size s[0].toNat c.toNat = ws (List.take (s.size - 1) s.data.toList.tail ++ [c]) := by
  have hb := ws_bd s.data.toList
  have hw : wellB (ws s.data.toList) s.size 1 = true := (wellB_iff _ _ _).2 (by omega)
  obtain ⟨⟨l⟩⟩ := s
  cases l with
  | nil => simp [ByteArray.size] at h
  | cons d l =>
    have hr := roll_ws d c l
    simp only [rollZ, hw, if_true]
    have e1 : (ByteArray.size ⟨⟨d :: l⟩⟩) = l.length + 1 := by simp [ByteArray.size]
    have e2 : List.take (ByteArray.size ⟨⟨d :: l⟩⟩ - 1) (d :: l).tail = l := by
      rw [e1]; simp
    rw [e2, ← hr, e1]
    rfl
theorem joins_eq (s t : ByteArray) (h3 : t.size ≤ 300) :
    joinZ (ws s.data.toList) (ws t.data.toList) t.size = ws (s.data.toList ++ t.data.toList) := by
  have hb := ws_bd s.data.toList
  have hb2 := ws_bd t.data.toList
  have hw : wellB (ws s.data.toList) t.size 0 = true := (wellB_iff _ _ _).2 (by omega)
  have hw2 : wellB (ws t.data.toList) t.size 0 = true := (wellB_iff _ _ _).2 (by omega)
  simp only [joinZ, hw, hw2, Bool.and_self, if_true]
  have := join_ws s.data.toList t.data.toList
  simp only [Array.length_toList] at this
  rw [show ((t.size : Nat) : Int) = (t.data.size : Int) from rfl, this]

set_option maxHeartbeats 400000 in
theorem weakRolls_walk (s t : ByteArray) (c : UInt8) (w : World) :
    Calls Try.prog 3 #[.string s, .string t, .int .u8 c.toNat] w fun e w' => e = .returned (.bool true) ∧ Below w.heap.size w w' := by
  by_cases h : 1 ≤ s.size ∧ s.size ≤ 300 ∧ t.size ≤ 300
  · obtain ⟨h1, h2, h3⟩ := h
    have hc : c.toNat < 256 := c.toNat_lt
    have h0 : 0 < s.size := h1
    have hcv := conv_one (P := Try.prog) (w.alloc (.cells #[.int .u8 ↑c.toNat] 5)).drew 23 9 5 Try.underlying23 Try.underlying5 Try.underlying9 w.heap.size 1 c (by simp)
    go_enter Try.func3, Try.ntmps3
    go_wp2_with (go_at_call 9; refine (weighed_any _).mono ?_; rintro e w' ⟨rfl, rfl⟩)
    go_region
    clear hcv
    have hsz : (s.extract 1 s.size ++ ⟨#[c]⟩ : ByteArray).size ≤ 100000 := by simp; show _ + 1 ≤ _; omega
    have hr : (rollZ (ws s.data.toList) s.size s[0].toNat c.toNat != ws (List.take (s.size - 1) s.data.toList.tail ++ [c])) = false := by rw [rolls_eq s c h0 h2]; simp
    have hj : (joinZ (ws s.data.toList) (ws t.data.toList) t.size == ws (s.data.toList ++ t.data.toList)) = true := by rw [joins_eq s t h3]; simp
    go_wp2_with fail
    go_quiet ((first | (go_at_call 11; exact quiet_add_left (weakSum_any _ _ (by first | omega | assumption))) | (go_at_call 10; exact quiet_add_left (roll_any _ _ _ _ _))))
    have hst : (s ++ t).size ≤ 100000 := by simp; omega
    go_wp2_with (first | (go_at_call 11; refine (weakSum_any _ _ (by first | omega | assumption)).mono ?_; rintro e w' ⟨rfl, rfl⟩) | (go_at_call 12; refine (join_any _ _ _ _).mono ?_; rintro e w' ⟨rfl, rfl⟩))
    go_ret
    exact ⟨rfl, below_drewN ((Below.refl _ w).alloc (Nat.le_refl _) _) _⟩
  · have h' : s.size < 1 ∨ 300 < s.size ∨ 300 < t.size := by omega
    clear h
    go_enter Try.func3, Try.ntmps3
    go_wp2_with (go_at_call 9; refine (weighed_any _).mono ?_; rintro e w' ⟨rfl, rfl⟩)
    all_goals (first | (go_ret; exact ⟨rfl, Below.refl _ _⟩) | (exfalso; omega))
end Go.Proofs.Ytmpikgkaoafclaa
