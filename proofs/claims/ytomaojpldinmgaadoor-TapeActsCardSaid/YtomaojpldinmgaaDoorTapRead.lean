/- Contract of tape.Read. -/
import Derived.Test.YtomaojpldinmgaaDoorTapWrite
import Derived.Test.YtomaojpldinmgaaDoorTapOne
namespace Go.Proofs.YtomaojpldinmgaaDoor
open Go.RowKit
set_option linter.unusedVariables false

def strV (l : List (List UInt8)) : List Value := l.map fun x => Value.string (bs x)
theorem strV_snoc (l : List (List UInt8)) (x : List UInt8) : strV (l ++ [x]) = strV l ++ [Value.string (bs x)] := by unfold strV; simp
theorem readL_step {b done : List (List UInt8)} {x : List UInt8} {n : Nat} {s : List UInt8} (h : readL x = (done ++ (readL (x.drop n)).1, n + (readL (x.drop n)).2)) (ho : oneL (x.drop n) = some s) :
    readL x = ((done ++ [s]) ++ (readL (x.drop (n + (recL s).length))).1, (n + (recL s).length) + (readL (x.drop (n + (recL s).length))).2) := by
  rw [h, readL_some ho, List.drop_drop]
  simp [Nat.add_assoc]
theorem oneL_len {b s : List UInt8} (h : oneL b = some s) : s.length ≤ 20000 := (one_is h).1
attribute [local irreducible] recL oneL readL
set_option maxRecDepth 100000 in
set_option maxHeartbeats 6400000 in
theorem read_any (E : Nat → Addr) (b : List UInt8) (w : World) (hw : LibW E w) (hb : b.length ≤ 1000000000) :
    Calls Tryd.prog 18 #[.string (bs b)] w fun e w' => ∃ v, e = .returned (.tuple #[v, .int .i64 ((readL b).2 : Nat)]) ∧ w'.ownsRow w.heap.size 9 1 v (readL b).1.length (strV (readL b).1) ∧ Below w.heap.size w w' := by
  have ON := Lib.hid (fun (x : List UInt8) (hx : x.length ≤ b.length) (w' : World) (bl : Below w.heap.size w w') => one_any E x w' (hw.below bl) (by omega))
  have RC := Lib.hid (fun (s : List UInt8) (hs : s.length ≤ 20000) (w' : World) (bl : Below w.heap.size w w') => rec_any E s w' (hw.below bl) (by omega))
  obtain ⟨i0, hi, hz0, hz1, hz2⟩ := info_parts infoStr
  clear hw
  go_enter Tryd.func18, Tryd.ntmps18
  go_wp2_with fail
  go_loopw [4, 5, 6, 7] (fun o i _ _ wr => ∃ (n : Nat) (done : List (List UInt8)), i = .int .i64 n ∧ n ≤ b.length ∧ done.length ≤ n ∧ wr.ownsRow w.heap.size 9 1 o done.length (strV done) ∧ readL b = (done ++ (readL (b.drop n)).1, n + (readL (b.drop n)).2) ∧ Below w.heap.size w wr) (fun _ i _ _ _ => b.length - (intOf i).toNat)
  case atStart => exact ⟨0, [], rfl, by omega, by simp, World.ownsRow_nil _ _ _ _, by simp, Below.refl _ _⟩
  case round =>
    obtain ⟨n, done, rfl, hn, hdn, hown, hread, bel⟩ := hrel
    have HR := Lib.hid hread
    have ED : (bs b).extract n b.length = bs (b.drop n) := by
      have := bs_drop (bs b) n
      rwa [bs_list, bs_size] at this
    have HO := Lib.hid hown
    have BW := Lib.hid bel
    have y1 : (0 : Int) ≤ n := by omega
    have y2 : (n : Int) ≤ b.length := by omega
    have y5 : (n : Int).toNat = n := by omega
    obtain ⟨va, vc, rfl⟩ := owns_slice hown
    clear hread bel hown
    cases ho : oneL (b.drop n) with
    | none =>
      have C := ON.out (b.drop n) (by simp) wr BW.out
      rw [ho] at C
      have HC := Lib.hid C
      have HF := Lib.hid (readL_none ho)
      clear C ho
      go_wp2_with fail
      refine HC.out.mono ?_
      rintro e w1 ⟨rfl, b1⟩
      have bel1 := below_trans' BW.out b1
      have own1 := owns_below HO.out b1
      clear b1
      go_wp2_with fail
      go_ret2
      have hrb : readL b = (done, n) := by
        have := HR.out
        rw [HF.out] at this
        simpa using this
      rw [hrb]
      exact ⟨_, rfl, own1, bel1⟩
    | some s =>
      have C := ON.out (b.drop n) (by simp) wr BW.out
      rw [ho] at C
      have HC := Lib.hid C
      have HST := Lib.hid (readL_step (b := []) HR.out ho)
      have hsl := oneL_len ho
      have hdl := one_drop ho
      rw [List.length_drop] at hdl
      have hrp := recL_pos s
      have hw1 : IntKind.i64.wrap ((n : Int) + (recL s).length) = (n : Int) + (recL s).length := IntWalk.i64_in _ (by omega)
      have HN1 : Hid (done.length + 1 ≤ maxLen) := by show _ ≤ _; unfold maxLen; omega
      have HN2 : Hid ((done.length + 1) * 16 ≤ 140737488355328) := by show _ ≤ _; omega
      have KK := Lib.hid (show n + (recL s).length ≤ b.length ∧ done.length + 1 ≤ n + (recL s).length ∧ 4 ≤ (recL s).length by omega)
      have RC1 := Lib.hid (RC.out s hsl)
      clear C ho hdl hrp RC ON
      generalize hR : recL s = R at *
      go_wp2_with fail
      refine HC.out.mono ?_
      rintro e w1 ⟨rfl, b1⟩
      have bel1 := Lib.hid (below_trans' BW.out b1)
      have own1 := Lib.hid (owns_below HO.out b1)
      clear b1 HO BW
      go_wp2_with (at_builtin; refine wpList_append_own _ rfl _ _ 39 rfl w.heap.size 9 i0 _ 1 16 Tryd.underlying39 hi hz0 hz1 hz2 rfl (by decide) _ _ _ rfl (own1.out.alloc _) ⟨w1.heap.size, 0, none⟩ 1 1 [.string (bs s)] rfl rfl (one_news (by simp)) (one_cell rfl) HN1.out HN2.out (by have := bel1.out.size; simp; omega) ?_; intro v' w5 hown5 hgrow _; have HO5 := Lib.hid hown5; have B5 := Lib.hid ((bel1.out.alloc bel1.out.size _).grown hgrow (by have := bel1.out.size; simp; omega) (fun j hj => (own1.out.lt j hj).1)); clear hown5 hgrow)
      refine (RC1.out _ B5.out).mono ?_
      rintro e w6 ⟨rfl, b6⟩
      have B6 := Lib.hid (below_trans' B5.out b6)
      have HO6 := Lib.hid (owns_below HO5.out b6)
      clear b6
      go_wp2_with fail
      go_roundw
      case rel => exact ⟨n + R.length, done ++ [s], by go_num, KK.out.1, by simpa using KK.out.2.1, by rw [strV_snoc, List.length_append]; exact HO6.out, HST.out, B6.out⟩
      case measure => have := KK.out; simp [intOf]; omega
end Go.Proofs.YtomaojpldinmgaaDoor
