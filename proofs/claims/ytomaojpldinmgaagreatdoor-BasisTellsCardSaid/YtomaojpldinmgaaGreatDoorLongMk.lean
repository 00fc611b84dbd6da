/- The statement's longMarks. -/
import Derived.Test.YtomaojpldinmgaaGreatDoorRefFar
import Derived.Test.YtomaojpldinmgaaGreatDoorArgMk
namespace Go.Proofs.YtomaojpldinmgaaGreatDoor
open Go.RowKit
set_option linter.unusedVariables false

def lgM (x : RMk) : Bool := decide (30 < x.n.length) || decide (x.S < 0) || decide (4294967295 < x.S)
def lmk (l : List RMk) : Bool := decide (40 < l.length) || l.any lgM
theorem lmk_no (l : List RMk) (h : lmk l = false) : ∃ k : List PMk, l.flatMap RMk.vals = rmkcells k ∧ k.length = l.length ∧ k.length ≤ 40 ∧ ∀ m ∈ k, m.n.length ≤ 30 ∧ m.S ≤ 4294967295 := by
  unfold lmk at h
  rw [Bool.or_eq_false_iff] at h
  obtain ⟨h1, h2⟩ := h
  replace h1 : l.length ≤ 40 := by simpa using h1
  refine ⟨l.map fun x => ⟨x.n, x.N, x.S.toNat⟩, ?_, by simp, by simpa using h1, fun m hm => ?_⟩
  · clear h1
    unfold rmkcells
    induction l with
    | nil => rfl
    | cons x l ih =>
      rw [List.any_cons, Bool.or_eq_false_iff] at h2
      rw [List.flatMap_cons, List.map_cons, List.flatMap_cons, ih h2.2]
      congr 1
      have h3 := h2.1
      unfold lgM at h3
      simp only [Bool.or_eq_false_iff, decide_eq_false_iff_not] at h3
      unfold RMk.vals PMk.rvals
      simp only
      rw [show ((x.S.toNat : Nat) : Int) = x.S by omega]
  · obtain ⟨x, hx, rfl⟩ := List.mem_map.1 hm
    have h3 : lgM x = false := by
      have := List.any_eq_false.1 h2 x hx
      simpa using this
    unfold lgM at h3
    simp only [Bool.or_eq_false_iff, decide_eq_false_iff_not] at h3
    simp only
    omega
theorem rvals_get (l : List RMk) (k : Nat) (h : k < l.length) : (l.flatMap RMk.vals)[k * 3]? = some (.string (bs l[k].n)) ∧ (l.flatMap RMk.vals)[k * 3 + 1]? = some (.int .i64 l[k].N) ∧ (l.flatMap RMk.vals)[k * 3 + 2]? = some (.int .i64 l[k].S) := by
  refine ⟨?_, ?_, ?_⟩
  · have := flat_get RMk.vals 3 RMk.vals_len l k 0 h (by omega); rw [Nat.add_zero] at this; exact this
  · exact flat_get RMk.vals 3 RMk.vals_len l k 1 h (by omega)
  · exact flat_get RMk.vals 3 RMk.vals_len l k 2 h (by omega)
theorem lmk_big {l : List RMk} (h : 40 < l.length) : lmk l = true := by unfold lmk; simp [h]
theorem lmk_hit {l : List RMk} {k : Nat} (h : k < l.length) (hx : lgM l[k] = true) : lmk l = true := by
  unfold lmk
  rw [Bool.or_eq_true_iff]
  exact .inr (List.any_eq_true.2 ⟨l[k], by simp, hx⟩)
theorem lmk_none {l : List RMk} (h : l.length ≤ 40) (hx : ∀ i, (h : i < l.length) → lgM l[i] = false) : lmk l = false := by
  unfold lmk
  rw [Bool.or_eq_false_iff]
  refine ⟨by simpa using h, List.any_eq_false.2 fun x hm => ?_⟩
  obtain ⟨i, hi, rfl⟩ := List.getElem_of_mem hm
  simp [hx i hi]
attribute [local irreducible] lmk lgM
set_option maxRecDepth 100000 in
set_option maxHeartbeats 3200000 in
theorem longMarks_any (l : List RMk) (s : Option Addr) (m c : Nat) (w : World) (hl : SliceIs w (.slice s m c) 3 (l.flatMap RMk.vals)) :
    Calls Tryz.prog 9 #[.slice s m c] w fun e w' => e = .returned (.bool (lmk l)) ∧ w' = w := by
  obtain ⟨s', m', c', e, hn, h1, h2, hg⟩ := hl.get
  cases e
  rw [flat_len _ 3 RMk.vals_len] at hn
  obtain rfl : m = l.length := by omega
  unfold maxLen at h2
  have LB := Lib.hid (fun h => lmk_big (l := l) h)
  have LH := Lib.hid (fun k h hx => lmk_hit (l := l) (k := k) h hx)
  have LN := Lib.hid (fun h hx => lmk_none (l := l) h hx)
  have HG := Lib.hid hg
  clear hl hg
  generalize lmk l = r at *
  by_cases h40 : 40 < l.length
  · have hI : (40 : Int) < l.length := by omega
    have R := Lib.hid (LB.out h40)
    clear LB LH LN
    go_enter Tryz.func9, Tryz.ntmps9
    go_wp2_with fail
    go_ret
    exact ⟨by rw [R.out]; rfl, rfl⟩
  · have hI : ¬ (40 : Int) < l.length := by omega
    go_enter Tryz.func9, Tryz.ntmps9
    go_wp2_with fail
    go_loopw [3] (fun i wr => ∃ k : Nat, i = .int .i64 k ∧ k ≤ l.length ∧ (∀ t, (h : t < l.length) → t < k → lgM l[t] = false) ∧ wr = w) (fun i _ => l.length - (intOf i).toNat)
    case atStart => exact ⟨0, rfl, by omega, fun t h h2 => by omega, rfl⟩
    case round =>
      obtain ⟨k, rfl, hk, hno, rfl⟩ := hrel
      have HNO := Lib.hid hno
      clear hno
      by_cases hlt : k < l.length
      · have hltI : (k : Int) < l.length := by omega
        obtain ⟨g2, g3, g4⟩ := rvals_get l k hlt
        obtain ⟨ad, rfl, d0⟩ := HG.out _ _ g2
        obtain ⟨a', e', d1⟩ := HG.out _ _ g3
        cases e'
        obtain ⟨a', e', d2⟩ := HG.out _ _ g4
        cases e'
        have HIT := Lib.hid (fun h => LH.out k hlt h)
        have NX := Lib.hid (fun (hx : lgM l[k] = false) => show ∀ t, (h : t < l.length) → t < k + 1 → lgM l[t] = false from fun t ht htj => by
            by_cases he : t = k
            · subst he; exact hx
            · exact HNO.out t ht (by omega))
        clear g2 g3 g4 HNO LB LH LN
        have KK := Lib.hid (show k + 1 ≤ l.length by omega)
        have y1 : (0 : Int) ≤ k := by omega
        have y2 : (k : Int).toNat = k := by omega
        generalize l[k] = x at d0 d1 d2 HIT NX
        have d1 := cell_at d1
        have d2 := cell_at d2
        obtain ⟨xn, xN, xS⟩ := x
        simp only at d0 d1 d2
        have xz : (bs xn).size = xn.length := bs_size xn
        by_cases q1 : 30 < xn.length
        · have q1I : (30 : Int) < xn.length := by omega
          have R := Lib.hid (HIT.out (by unfold lgM; simp [q1]))
          clear HIT NX
          go_wp2_with fail
          go_ret
          exact ⟨by rw [R.out]; rfl, rfl⟩
        · have q1I : ¬ (30 : Int) < xn.length := by omega
          by_cases q2 : xS < 0
          · have R := Lib.hid (HIT.out (by unfold lgM; simp [q2]))
            clear HIT NX
            go_wp2_with fail
            go_ret
            exact ⟨by rw [R.out]; rfl, rfl⟩
          · by_cases q3 : 4294967295 < xS
            · have R := Lib.hid (HIT.out (by unfold lgM; simp [q3]))
              clear HIT NX
              go_wp2_with fail
              go_ret
              exact ⟨by rw [R.out]; rfl, rfl⟩
            · have N2 := Lib.hid (NX.out (by unfold lgM; simp; omega))
              clear HIT NX
              go_wp2_with fail
              go_roundw
              case rel => exact ⟨k + 1, by go_num, KK.out, N2.out, by trivial⟩
              case measure => simp [intOf]; omega
      · have hltI : ¬ (k : Int) < l.length := by omega
        have R := Lib.hid (LN.out (by omega) (fun i h => HNO.out i h (by omega)))
        clear HNO LB LH LN
        go_wp2_with fail
        go_ret
        exact ⟨by rw [R.out]; rfl, rfl⟩
end Go.Proofs.YtomaojpldinmgaaGreatDoor
