/- Contracts of basis.Text, Far. -/
import Derived.Test.YtomaojpldinmgaaGreatDoorBasPlain
import Derived.Test.YtomaojpldinmgaaGreatDoorFilName
import Derived.Test.YtomaojpldinmgaaGreatDoorFmtUint
import Derived.Test.YtomaojpldinmgaaGreatDoorSum
import Derived.Test.YtomaojpldinmgaaGreatDoorChg
import Derived.Test.YtomaojpldinmgaaGreatDoorBlkPlain
namespace Go.Proofs.YtomaojpldinmgaaGreatDoor
open Go.RowKit
set_option linter.unusedVariables false

def PMk.vals (m : PMk) : List Value := [.string (bs m.n), .int .i64 m.N, .int .u32 m.S]
def PMk.val (m : PMk) : Value := .agg #[.string (bs m.n), .int .i64 m.N, .int .u32 m.S]
def mkcells (l : List PMk) : List Value := l.flatMap PMk.vals
theorem PMk.vals_len (m : PMk) : m.vals.length = 3 := rfl
theorem mkcells_len (l : List PMk) : (mkcells l).length = l.length * 3 := flat_len _ 3 PMk.vals_len l
theorem mkcells_snoc (l : List PMk) (m : PMk) : mkcells (l ++ [m]) = mkcells l ++ m.vals := by unfold mkcells; simp
theorem mkcells_get (l : List PMk) (k : Nat) (h : k < l.length) : (mkcells l)[k * 3]? = some (.string (bs l[k].n)) ∧ (mkcells l)[k * 3 + 1]? = some (.int .i64 l[k].N) ∧ (mkcells l)[k * 3 + 2]? = some (.int .u32 l[k].S) := by
  refine ⟨?_, ?_, ?_⟩
  · have := flat_get PMk.vals 3 PMk.vals_len l k 0 h (by omega); rw [Nat.add_zero] at this; exact this
  · exact flat_get PMk.vals 3 PMk.vals_len l k 1 h (by omega)
  · exact flat_get PMk.vals 3 PMk.vals_len l k 2 h (by omega)
theorem mk_cs {w : World} {b : Nat} {u0 u1 u2 : Value} {t : TypeId} (h : w.heap[b]? = some (.cells #[u0, u1, u2] t (0, 0))) : w.cell? ⟨b, 0, none⟩ = some u0 ∧ w.cell? ⟨b, 1, none⟩ = some u1 ∧ w.cell? ⟨b, 2, none⟩ = some u2 := by
  refine ⟨?_, ?_, ?_⟩ <;> simp [World.cell?, h]
attribute [local irreducible] nameB
set_option maxRecDepth 100000 in
set_option maxHeartbeats 6400000 in
theorem btext_any (E : Nat → Addr) (m : PMk) (w : World) (hw : LibW E w) (hn : m.n.length ≤ 1000000000) (hS : m.S ≤ 4294967295) (h5 : Has E w 5) (h2 : Has E w 2) :
    Calls Tryz.prog 10 #[m.val] w fun e w' => e = .returned (.tuple #[.string (bs (mkX m)), ev E (mkC m)]) ∧ Below w.heap.size w w' := by
  obtain ⟨n, N, S⟩ := m
  simp only at hn hS
  have B0 := Lib.hid (wb_alloc w (.cells #[.string (bs n), .int .i64 N, .int .u32 S] 30))
  have HX := Lib.hid (heap_alloc_new w (.cells #[.string (bs n), .int .i64 N, .int .u32 S] 30))
  have NM := Lib.hid (fun w' => flname_any n w' (by unfold maxLen; omega))
  have XK := Lib.hid (fun (w' : World) (b : Below (w.alloc (.cells #[.string (bs n), .int .i64 N, .int .u32 S] 30)).heap.size (w.alloc (.cells #[.string (bs n), .int .i64 N, .int .u32 S] 30)) w') => mk_cs ((b.block w.heap.size (by simp)).trans HX.out))
  have E5 := Lib.hid (fun (w' : World) (b : Below (w.alloc (.cells #[.string (bs n), .int .i64 N, .int .u32 S] 30)).heap.size (w.alloc (.cells #[.string (bs n), .int .i64 N, .int .u32 S] 30)) w') => show w'.cell? ⟨0, 0, none⟩ = some (errv (E 5)) from (h5.below B0.out).below b)
  have E2 := Lib.hid (fun (w' : World) (b : Below (w.alloc (.cells #[.string (bs n), .int .i64 N, .int .u32 S] 30)).heap.size (w.alloc (.cells #[.string (bs n), .int .i64 N, .int .u32 S] 30)) w') => show w'.cell? ⟨1, 0, none⟩ = some (errv (E 2)) from (h2.below B0.out).below b)
  have LW := Lib.hid (fun (w' : World) (b : Below (w.alloc (.cells #[.string (bs n), .int .i64 N, .int .u32 S] 30)).heap.size (w.alloc (.cells #[.string (bs n), .int .i64 N, .int .u32 S] 30)) w') => (hw.below B0.out).below b)
  have c0 := (mk_cs HX.out).1
  clear h5 h2 hw
  show Calls _ _ #[.agg #[.string (bs n), .int .i64 N, .int .u32 S]] _ _
  by_cases hnm : nameB n = true
  · rw [hnm] at NM
    by_cases hN : 0 ≤ N ∧ N ≤ 4000
    · obtain ⟨hN1, hN2⟩ := hN
      obtain ⟨K, rfl⟩ := Int.eq_ofNat_of_zero_le hN1
      have hC : mkC ⟨n, K, S⟩ = 0 := by unfold mkC; rw [if_neg (by simp [hnm]), if_neg (by simp only; omega)]
      have hX : mkX ⟨n, K, S⟩ = n ++ 32 :: (Lib.decDigits K ++ 32 :: Lib.decDigits S) := by unfold mkX mkT; rw [if_pos hC]; simp
      rw [hC, hX, ev_zero]
      have hl1 := dec_len_le (n := K) (k := 18) (by omega)
      have hl2 := dec_len_le (n := S) (k := 18) (by omega)
      have HFIN : Hid (((bs n ++ ⟨#[32]⟩ ++ bs (Lib.decDigits K)) ++ ⟨#[32]⟩) ++ bs (Lib.decDigits S) = bs (n ++ 32 :: (Lib.decDigits K ++ 32 :: Lib.decDigits S))) := Lib.hid (by
        apply eq_bs
        simp)
      have IT := Lib.hid (fun (w' : World) (h : LibW E w') => itoa_any E K w' h (by omega))
      have FU := Lib.hid (fun (w' : World) (h : LibW E w') => fmtuint_any E S w' h hS)
      have hsz : (bs n).size = n.length := bs_size n
      have hI1 : ¬ ((K : Int) < 0) := by omega
      have hI2 : ¬ (4000 : Int) < K := by omega
      have k1 : ¬ 9223372036854775807 < n.length + 1 := by omega
      have k2 : ¬ 9223372036854775807 < n.length + 1 + (Lib.decDigits K).length := by omega
      have k3 : ¬ 9223372036854775807 < n.length + 1 + (Lib.decDigits K).length + 1 := by omega
      have k4 : ¬ 9223372036854775807 < n.length + 1 + (Lib.decDigits K).length + 1 + (Lib.decDigits S).length := by omega
      have hw64 : IntKind.u64.wrap (S : Int) = S := IntWalk.u64_in _ (by omega)
      clear hC hX hl1 hl2 E5 E2
      generalize Lib.decDigits K = dk at *
      generalize Lib.decDigits S = ds at *
      go_enter Tryz.func10, Tryz.ntmps10
      go_wp2_with fail
      refine (NM.out _).mono ?_
      rintro e w1 ⟨rfl, b1⟩
      obtain ⟨d0, d1, d2⟩ := XK.out _ b1
      have SS := And.intro d0 (And.intro d1 d2)
      have SB := Lib.hid b1
      have KK := Lib.hid (fun (w' : World) (b : Below w1.heap.size w1 w') => XK.out _ (below_trans' SB.out b))
      have LL := Lib.hid (fun (w' : World) (b : Below w1.heap.size w1 w') => LW.out _ (below_trans' SB.out b))
      have BR := Below.refl w1.heap.size w1
      clear b1 c0 XK LW NM
      go_wp2_with fail
      go_region_held3 (fun w' => w'.cell? ⟨w.heap.size, 0, none⟩ = some (.string (bs n)) ∧ w'.cell? ⟨w.heap.size, 1, none⟩ = some (.int .i64 K) ∧ w'.cell? ⟨w.heap.size, 2, none⟩ = some (.int .u32 S)) (first | assumption | exact SS | exact KK.out _ (Below.drew BR))
        (first
        | (go_at_call 49; refine (IT.out _ (LL.out _ (by first | assumption | exact BR | exact Below.drew BR))).mono ?_; rintro e w2 ⟨rfl, b2⟩; have bb2 := below_trans' (by first | assumption | exact BR | exact Below.drew BR) b2; have SS2 := KK.out _ bb2; clear b2)
        | (go_at_call 50; refine (FU.out _ (LL.out _ (by first | assumption | exact BR | exact Below.drew BR))).mono ?_; rintro e w3 ⟨rfl, b3⟩; have bb3 := below_trans' (by first | assumption | exact BR | exact Below.drew BR) b3; have SS3 := KK.out _ bb3; clear b3))
      all_goals
        have BF := Lib.hid (below_trans' SB.out bb3)
        go_wp2_with fail
        go_ret2
        rw [← HFIN.out]
        exact ⟨rfl, below_trans' B0.out BF.out⟩
    · have hC : mkC ⟨n, N, S⟩ = 2 := by unfold mkC; rw [if_neg (by simp [hnm]), if_pos (by simp only; omega)]
      have hX : mkX ⟨n, N, S⟩ = [] := by unfold mkX; rw [if_neg (by rw [hC]; decide)]
      rw [hC, hX, ev_is E (by decide), bs_nil]
      have hor : N < 0 ∨ ¬ N < 0 ∧ 4000 < N := by omega
      clear hC hX hN E5 LW
      rcases hor with h1 | ⟨h1, h3⟩
      all_goals
        go_enter Tryz.func10, Tryz.ntmps10
        go_wp2_with fail
        refine (NM.out _).mono ?_
        rintro e w1 ⟨rfl, b1⟩
        obtain ⟨d0, d1, d2⟩ := XK.out _ b1
        have d5 := E2.out _ b1
        have SB := Lib.hid (below_trans' B0.out b1)
        clear b1 c0 d0 d2 XK NM E2
        go_wp2_with fail
        go_quiet (fail)
        go_wp2_with fail
        go_ret2
        exact ⟨rfl, below_drewN SB.out _⟩
  · have hnm' : nameB n = false := by simpa using hnm
    rw [hnm'] at NM
    have hC : mkC ⟨n, N, S⟩ = 5 := by unfold mkC; rw [if_pos hnm']
    have hX : mkX ⟨n, N, S⟩ = [] := by unfold mkX; rw [if_neg (by rw [hC]; decide)]
    rw [hC, hX, ev_is E (by decide), bs_nil]
    clear hC hX hnm hnm' E2 LW
    go_enter Tryz.func10, Tryz.ntmps10
    go_wp2_with fail
    refine (NM.out _).mono ?_
    rintro e w1 ⟨rfl, b1⟩
    have d5 := E5.out _ b1
    have SB := Lib.hid (below_trans' B0.out b1)
    clear b1 c0 XK NM E5
    go_wp2_with fail
    go_quiet (fail)
    go_wp2_with fail
    go_ret2
    exact ⟨rfl, below_drewN SB.out _⟩
end Go.Proofs.YtomaojpldinmgaaGreatDoor
