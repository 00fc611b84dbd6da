/- The contract of weak.All: the sums of all windows of a text. -/
import Derived.Test.YtmpikgkaoafclaaWeak
import Derived.Test.YtmpikgkaoafclaaLib
import Derived.IntWalk
import Derived.Outline
namespace Go.Proofs.Ytmpikgkaoafclaa
open Go.RowKit

/-- the sum of the window from j on -/
def win (l : List UInt8) (n j : Nat) : Int := ws ((l.drop j).take n)
def wins (l : List UInt8) (n k : Nat) : List Value := (List.range k).map fun j => .int .i64 (win l n j)
theorem wins_snoc (l : List UInt8) (n k : Nat) : wins l n (k + 1) = wins l n k ++ [.int .i64 (win l n k)] := by
  simp [wins, List.range_succ]
theorem wins_length (l : List UInt8) (n k : Nat) : (wins l n k).length = k := by simp [wins]
theorem wins_at (l : List UInt8) (n k j : Nat) (h : j < k) : (wins l n k)[j]? = some (.int .i64 (win l n j)) := by simp [wins, h]
attribute [irreducible] win wins
theorem win_bd (l : List UInt8) (n j : Nat) : 0 ≤ win l n j ∧ win l n j < 4294967296 := by unfold win; exact ws_bd _

theorem infoInt : (Try.prog.info? 3).map (fun i => (i.zero, i.size, i.bytes)) = some (some (.int .i64 0), 1, 8) := by kernel_rfl

theorem win_snoc (l : List UInt8) (n j : Nat) (hn : 1 ≤ n) (h4 : n ≤ 4000) (h : n + j < l.length) : rollZ (win l n j) n (l[j]'(by omega)).toNat (l[n + j]).toNat = win l n (j + 1) := by
  have hb := ws_bd ((l.drop j).take n)
  have hw : wellB (ws ((l.drop j).take n)) n 1 = true := (wellB_iff _ _ _).2 (by omega)
  obtain ⟨m, rfl⟩ : ∃ m, n = m + 1 := ⟨n - 1, by omega⟩
  have e1 : (l.drop j).take (m + 1) = l[j] :: (l.drop (j + 1)).take m := by
    rw [List.drop_eq_getElem_cons (by omega), List.take_succ_cons]
  have e2 : (l.drop (j + 1)).take (m + 1) = (l.drop (j + 1)).take m ++ [l[m + 1 + j]] := by
    rw [List.take_succ_eq_append_getElem (by simp; omega)]
    congr 2
    simp only [List.getElem_drop]
    congr 1; omega
  have hl : ((l.drop (j + 1)).take m).length = m := by simp; omega
  have hr := roll_ws l[j] l[m + 1 + j] ((l.drop (j + 1)).take m)
  rw [hl] at hr
  unfold win rollZ
  rw [hw, e2, ← hr, e1]
  rfl
theorem all_round (s : ByteArray) (n j : Nat) (w wr : World) {g cap : Nat} {v' : Value} {w1 : World} {E : TypeId} (hn : 1 ≤ n ∧ n ≤ 4000) (hj : n + j < s.size) (hbel : Below w.heap.size w wr) (hg : w.heap.size ≤ g)
    (hown : w1.ownsRow w.heap.size E 1 v' (j + 1 + 1) (wins s.data.toList n (j + 1) ++ [.int .i64 (rollZ (win s.data.toList n j) n (s[j]'(by omega)).toNat s[n + j].toNat)]))
    {o : Obj} (hgrow : ((wr.alloc o).drew).grownBy w1 (Value.ownBlock (.slice (some ⟨g, 0, none⟩) (j + 1) cap))) :
    w1.ownsRow w.heap.size E 1 v' (j + 1 + 1) (wins s.data.toList n (j + 1 + 1)) ∧ Below w.heap.size w w1 := by
  constructor
  · rw [wins_snoc, ← win_snoc s.data.toList n j hn.1 hn.2 (by simpa using hj)]
    exact hown
  · exact ((hbel.alloc hbel.size _).drew).grown hgrow (by have := hbel.size; simp; omega) (by intro k hk; simp [Value.ownBlock] at hk; omega)

set_option maxRecDepth 100000 in
set_option maxHeartbeats 1600000 in
theorem all_yes (s : ByteArray) (n : Nat) (w : World) (h1 : 1 ≤ n) (h2 : n ≤ 4000) (h3 : n ≤ s.size) (h4 : s.size ≤ 100000) :
    Calls Try.prog 13 #[.string s, .int .i64 n] w fun e w' => ∃ v, e = .returned v ∧ w'.ownsRow w.heap.size 3 1 v (s.size - n + 1) (wins s.data.toList n (s.size - n + 1)) ∧ Below w.heap.size w w' := by
  obtain ⟨i0, hi, hz0, hz1, hz2⟩ := info_parts infoInt
  obtain ⟨B, hB⟩ : ∃ B, B = w.heap.size := ⟨_, rfl⟩
  have hex : (s.extract 0 n).size ≤ 100000 := by simp; omega
  go_enter Try.func13, Try.ntmps13
  go_wp2_with (go_at_call 11; refine (weakSum_any _ _ hex).mono ?_; rintro e w' ⟨rfl, rfl⟩)
  go_loopw [5, 6] (fun v i wr => ∃ j : Nat, n + j ≤ s.size ∧ i = .int .i64 (n + j : Int) ∧ wr.ownsRow w.heap.size 3 1 v (j + 1) (wins s.data.toList n (j + 1)) ∧ Below w.heap.size w wr)
    (fun _ i _ => s.size - (intOf i).toNat)
  case atStart =>
    refine ⟨0, by omega, by simp, ?_, (Below.refl _ _).alloc (Nat.le_refl _) _⟩
    have := World.ownsRow_lit (base := w.heap.size) (e := 3) (size := 1) w #[.int .i64 (ws (s.data.toList.take n))] 1 (Nat.le_refl _) (by decide) (by simp)
    simpa [wins, win] using this
  case round =>
    obtain ⟨j, hj, rfl, hown, hbel⟩ := hrel
    obtain ⟨g, cap, rfl, hg1, hg2, hc1, hc2, hcell, _⟩ := owns_open hown (by omega)
    by_cases hlt : n + j < s.size
    · have hcj : wr.cell? ⟨g, j, none⟩ = some (.int .i64 (win s.data.toList n j)) := hcell j _ (wins_at _ _ _ _ (by omega))
      clear hcell
      have hjs : j < s.size := by omega
      go_wp2_with fail
      have e1 : IntKind.i64.wrap ((n : Int) + j - n) = j := by rw [IntWalk.i64_in _ (by omega)]; omega
      have e2 : ((n : Int) + j).toNat = n + j := by omega
      have e3 : (0 : Int) ≤ (n : Int) + j := by omega
      have e4 : (n : Int) + j < s.size := by omega
      have e5 : (j : Int) < (j : Int) + 1 := by omega
      go_region_law (first | (refine step_append_own rfl (.tmp 31) (.tmp 48) 28 rfl w.heap.size 3 i0 (.int .i64 0) 1 8 Try.underlying28 hi hz0 hz1 hz2 rfl (by decide) _ (j + 1) _ rfl (hown.alloc _).drew ⟨wr.heap.size, 0, none⟩ 1 1 [.int .i64 (rollZ (win s.data.toList n j) n s[j].toNat s[n + j].toNat)] rfl rfl (one_news (by simp)) (one_cell rfl) (by unfold maxLen; omega) (by omega) (by have := hbel.size; simp; omega) ?_; intro v' w1 hown' hgrow _) | (go_simp; go_at_call 10; refine (roll_any _ _ _ _ _).mono ?_; rintro e w' ⟨rfl, rfl⟩))
      all_goals
        have R := all_round s n j w wr (by omega) (by omega) hbel hg1 hown' hgrow
        clear hown' hgrow hown hbel hcj e1
        go_wp2_with fail
        go_roundw
        case rel => exact ⟨j + 1, by omega, by go_num, R.1, R.2⟩
        case measure => simp [intOf]; omega
    · have hjn : s.size - n + 1 = j + 1 := by omega
      clear hcell
      go_wp2_with fail
      go_ret
      exact ⟨_, rfl, by rw [hjn]; exact hown, hbel⟩

theorem all_no (s : ByteArray) (n : Int) (w : World) (h : n < 1 ∨ 4000 < n ∨ s.size < n) :
    Calls Try.prog 13 #[.string s, .int .i64 n] w fun e w' => e = .returned (.slice none 0 0) ∧ w = w' := by
  go_enter Try.func13, Try.ntmps13
  go_wp2_with fail
  all_goals (first | (go_ret; exact ⟨rfl, rfl⟩) | (exfalso; omega))
end Go.Proofs.Ytmpikgkaoafclaa
