/- The document's MarkText and ReadMark. -/
import Derived.Test.YtomaojpldinmgaaGreatDoorRefCut
import Derived.Test.YtomaojpldinmgaaGreatDoorRefDec
import Derived.Test.YtomaojpldinmgaaGreatDoorRefName
import Derived.Test.YtomaojpldinmgaaGreatDoorBasRead
namespace Go.Proofs.YtomaojpldinmgaaGreatDoor
open Go.RowKit
set_option linter.unusedVariables false

/-- a mark of the document: its sum is an int -/
def PMk.rval (m : PMk) : Value := .agg #[.string (bs m.n), .int .i64 m.N, .int .i64 m.S]
attribute [local irreducible] nameB
set_option maxRecDepth 100000 in
set_option maxHeartbeats 6400000 in
theorem rmarktext_any (m : PMk) (w : World) (hn : m.n.length ≤ 1000000000) (hS : m.S ≤ 4294967295) :
    Calls Tryz.prog 11 #[m.rval] w fun e w' => e = .returned (.tuple #[.string (bs (mkX m)), .int .i64 (mkC m : Nat)]) ∧ Below w.heap.size w w' := by
  obtain ⟨n, N, S⟩ := m
  simp only at hn hS
  have B0 := Lib.hid (wb_alloc w (.cells #[.string (bs n), .int .i64 N, .int .i64 S] 27))
  have HX := Lib.hid (heap_alloc_new w (.cells #[.string (bs n), .int .i64 N, .int .i64 S] 27))
  have NM := Lib.hid (fun w' => isName_any n w' (by omega))
  have XK := Lib.hid (fun (w' : World) (b : Below (w.alloc (.cells #[.string (bs n), .int .i64 N, .int .i64 S] 27)).heap.size (w.alloc (.cells #[.string (bs n), .int .i64 N, .int .i64 S] 27)) w') => mk_cs ((b.block w.heap.size (by simp)).trans HX.out))
  have c0 := (mk_cs HX.out).1
  show Calls _ _ #[.agg #[.string (bs n), .int .i64 N, .int .i64 S]] _ _
  by_cases hnm : nameB n = true
  · rw [hnm] at NM
    by_cases hN : 0 ≤ N ∧ N ≤ 4000
    · obtain ⟨hN1, hN2⟩ := hN
      obtain ⟨K, rfl⟩ := Int.eq_ofNat_of_zero_le hN1
      have hC : mkC ⟨n, K, S⟩ = 0 := by unfold mkC; rw [if_neg (by simp [hnm]), if_neg (by simp only; omega)]
      have hX : mkX ⟨n, K, S⟩ = n ++ 32 :: (Lib.decDigits K ++ 32 :: Lib.decDigits S) := by unfold mkX mkT; rw [if_pos hC]; simp
      rw [hC, hX]
      have hl1 := dec_len_le (n := K) (k := 18) (by omega)
      have hl2 := dec_len_le (n := S) (k := 18) (by omega)
      have HFIN : Hid (((bs n ++ ⟨#[32]⟩ ++ bs (Lib.decDigits K)) ++ ⟨#[32]⟩) ++ bs (Lib.decDigits S) = bs (n ++ 32 :: (Lib.decDigits K ++ 32 :: Lib.decDigits S))) := Lib.hid (by
        apply eq_bs
        simp)
      have DK := Lib.hid (fun (w' : World) => rdecimal_any K w' (by omega))
      have DS := Lib.hid (fun (w' : World) => rdecimal_any S w' (by omega))
      have hsz : (bs n).size = n.length := bs_size n
      have hI1 : ¬ ((K : Int) < 0) := by omega
      have hI2 : ¬ (4000 : Int) < K := by omega
      have k1 : ¬ 9223372036854775807 < n.length + 1 := by omega
      have k2 : ¬ 9223372036854775807 < n.length + 1 + (Lib.decDigits K).length := by omega
      have k3 : ¬ 9223372036854775807 < n.length + 1 + (Lib.decDigits K).length + 1 := by omega
      have k4 : ¬ 9223372036854775807 < n.length + 1 + (Lib.decDigits K).length + 1 + (Lib.decDigits S).length := by omega
      clear hC hX hl1 hl2
      generalize Lib.decDigits K = dk at *
      generalize Lib.decDigits S = ds at *
      go_enter Tryz.func11, Tryz.ntmps11
      go_wp2_with fail
      refine (NM.out _).mono ?_
      rintro e w1 ⟨rfl, rfl⟩
      obtain ⟨d0, d1, d2⟩ := XK.out _ (Below.refl _ _)
      have SS := And.intro d0 (And.intro d1 d2)
      clear c0 NM
      generalize hW1 : w.alloc (.cells #[.string (bs n), .int .i64 K, .int .i64 S] 27) = w1 at *
      have BR := Below.refl w1.heap.size w1
      go_wp2_with fail
      go_region_held3 (fun w' => w'.cell? ⟨w.heap.size, 0, none⟩ = some (.string (bs n)) ∧ w'.cell? ⟨w.heap.size, 1, none⟩ = some (.int .i64 K) ∧ w'.cell? ⟨w.heap.size, 2, none⟩ = some (.int .i64 S)) (first | assumption | exact SS | exact XK.out _ (Below.drew BR))
        (first
        | (go_at_call 51; with_reducible refine (DK.out _).mono ?_; rintro e w2 ⟨rfl, b2⟩; have bb2 := below_trans' (by first | assumption | exact BR | exact Below.drew BR) b2; have SS2 := XK.out _ bb2; clear b2)
        | (go_at_call 51; with_reducible refine (DS.out _).mono ?_; rintro e w3 ⟨rfl, b3⟩; have bb3 := below_trans' (by first | assumption | exact BR | exact Below.drew BR) b3; have SS3 := XK.out _ bb3; clear b3))
      all_goals
        have BF := Lib.hid bb3
        go_wp2_with fail
        go_ret2
        rw [← HFIN.out]
        exact ⟨rfl, below_trans' B0.out BF.out⟩
    · have hC : mkC ⟨n, N, S⟩ = 2 := by unfold mkC; rw [if_neg (by simp [hnm]), if_pos (by simp only; omega)]
      have hX : mkX ⟨n, N, S⟩ = [] := by unfold mkX; rw [if_neg (by rw [hC]; decide)]
      rw [hC, hX, bs_nil]
      have hor : N < 0 ∨ ¬ N < 0 ∧ 4000 < N := by omega
      clear hC hX hN
      rcases hor with h1 | ⟨h1, h3⟩
      all_goals
        go_enter Tryz.func11, Tryz.ntmps11
        go_wp2_with fail
        refine (NM.out _).mono ?_
        rintro e w1 ⟨rfl, rfl⟩
        obtain ⟨d0, d1, d2⟩ := XK.out _ (Below.refl _ _)
        clear c0 d0 d2 XK NM
        go_wp2_with fail
        go_ret2
        exact ⟨rfl, B0.out⟩
  · have hnm' : nameB n = false := by simpa using hnm
    rw [hnm'] at NM
    have hC : mkC ⟨n, N, S⟩ = 5 := by unfold mkC; rw [if_pos hnm']
    have hX : mkX ⟨n, N, S⟩ = [] := by unfold mkX; rw [if_neg (by rw [hC]; decide)]
    rw [hC, hX, bs_nil]
    clear hC hX hnm hnm'
    go_enter Tryz.func11, Tryz.ntmps11
    go_wp2_with fail
    refine (NM.out _).mono ?_
    rintro e w1 ⟨rfl, rfl⟩
    clear c0 XK NM
    go_wp2_with fail
    go_ret2
    exact ⟨rfl, B0.out⟩
end Go.Proofs.YtomaojpldinmgaaGreatDoor
