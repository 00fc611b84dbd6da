/- The document's (*Receiver).More. -/
import Derived.Test.YtnjkopjbognpiaaDoorRefPlace
import Derived.Test.YtnjkopjbognpiaaDoorWinAck
namespace Go.Proofs.YtnjkopjbognpiaaDoor
open Go.RowKit
set_option linter.unusedVariables false

def morR (due : Int) (l : List Int) (k : Nat) : List Int := ((List.range k).map fun i : Nat => md (due + i)).filter fun z => decide (0 ≤ plI l z 0)
theorem morR_zero (due : Int) (l : List Int) : morR due l 0 = [] := rfl
theorem morR_yes {due : Int} {l : List Int} {k : Nat} (h : 0 ≤ plI l (md (due + k)) 0) : morR due l (k + 1) = morR due l k ++ [md (due + k)] := by
  unfold morR
  rw [List.range_succ, List.map_append, List.filter_append]
  simp [h]
theorem morR_no {due : Int} {l : List Int} {k : Nat} (h : ¬ 0 ≤ plI l (md (due + k)) 0) : morR due l (k + 1) = morR due l k := by
  unfold morR
  rw [List.range_succ, List.map_append, List.filter_append]
  simp [h]
theorem morR_len (due : Int) (l : List Int) (k : Nat) : (morR due l k).length ≤ k := by
  unfold morR
  exact Nat.le_trans (List.length_filter_le _ _) (by simp)
theorem int_one {w : World} {b : Nat} {x : Value} {t : TypeId} (h : w.heap[b]? = some (.cells #[x] t (0, 0))) : SliceIs w (.slice (some ⟨b, 0, none⟩) 1 1) 1 [x] :=
  .inr ⟨_, 1, 1, rfl, Nat.le_refl _, by unfold maxLen; omega, rfl, fun j u' hj => by
    match j, hj with
    | 0, hj => simp at hj; subst hj; simp [World.cell?, h, Addr.add]⟩
attribute [local irreducible] morR
set_option maxRecDepth 100000 in
set_option maxHeartbeats 3200000 in
theorem rmore_any (rb : Nat) (vN vD : Value) (due : Int) (l : List Int) (w : World) (hc : w.heap[rb]? = some (.cells #[.int .i64 due, vN, vD] 37 (0, 0))) (hN : SliceIs w vN 1 (l.map (Value.int .i64))) (hd : 0 ≤ due ∧ due < 65536) :
    Calls Tryd.prog 16 #[.pointer (some ⟨rb, 0, none⟩)] w fun e w' => ∃ r, e = .returned r ∧ w'.ownsRow w.heap.size 3 1 r (morR due l 32).length ((morR due l 32).map (Value.int .i64)) ∧ Below w.heap.size w w' := by
  obtain ⟨i0, hi, hz0, hz1, hz2⟩ := info_parts infoInt
  obtain ⟨hd1, hd2⟩ := hd
  have HC := Lib.hid hc
  have PL := Lib.hid (fun (z : Int) (w' : World) (b : Below w.heap.size w w') => place_any rb vN vD due l z w' ((b.block rb (lt_of_block HC.out)).trans HC.out) (hN.below b))
  have CC := Lib.hid (fun (w' : World) (b : Below w.heap.size w w') => show w'.cell? ⟨rb, 0, none⟩ = some (.int .i64 due) from by
    have h := (b.block rb (lt_of_block HC.out)).trans HC.out
    simp [World.cell?, h])
  clear hc hN
  go_enter Tryd.func16, Tryd.ntmps16
  go_wp2_with fail
  go_loopw [3, 4, 5] (fun o i _ wr => ∃ k : Nat, i = .int .i64 k ∧ k ≤ 32 ∧ wr.ownsRow w.heap.size 3 1 o (morR due l k).length ((morR due l k).map (Value.int .i64)) ∧ Below w.heap.size w wr) (fun _ i _ _ => 32 - (intOf i).toNat)
  case atStart => exact ⟨0, rfl, by omega, by rw [morR_zero]; exact World.ownsRow_nil _ _ _ _, Below.refl _ _⟩
  case round =>
    obtain ⟨k, rfl, hk, hown, bel⟩ := hrel
    by_cases hlt : k < 32
    · have hltI : (k : Int) < 32 := by omega
      have hml := morR_len due l k
      have hm : (due + k).tmod 65536 = md (due + k) := by rw [Int.tmod_eq_emod_of_nonneg (by omega)]; rfl
      have hmd := md_lt (due + k)
      have hw1 : IntKind.i64.wrap (due + k) = due + k := IntWalk.i64_in _ (by omega)
      have hw2 : IntKind.i64.wrap ((due + k).tmod 65536) = md (due + k) := by rw [hm]; exact IntWalk.i64_in _ (by omega)
      have hw3 : (due + k) % 65536 = md (due + k) := rfl
      have YES := Lib.hid (fun h => morR_yes (due := due) (l := l) (k := k) h)
      have NO := Lib.hid (fun h => morR_no (due := due) (l := l) (k := k) h)
      have c0 := CC.out _ bel
      have HO := Lib.hid hown
      have BW := Lib.hid bel
      have KK := Lib.hid (show k + 1 ≤ 32 from hlt)
      have HN1 : Hid ((morR due l k).length + 1 ≤ maxLen) := by show _ ≤ _; unfold maxLen; omega
      have HN2 : Hid (((morR due l k).length + 1) * 8 ≤ 140737488355328) := by show _ ≤ _; omega
      obtain ⟨va, vc, rfl⟩ := owns_slice hown
      clear hown bel hml
      generalize md (due + k) = z at *
      go_wp2_with fail
      refine (PL.out z _ BW.out).mono ?_
      rintro e w1 ⟨rfl, rfl⟩
      by_cases hp : 0 ≤ plI l z 0
      · have Y := Lib.hid (YES.out (by omega))
        clear YES NO
        go_wp2_with (at_builtin; refine wpList_append_own _ rfl _ _ 31 rfl w.heap.size 3 i0 _ 1 8 Tryd.underlying31 hi hz0 hz1 hz2 rfl (by decide) _ _ _ rfl (HO.out.alloc _) ⟨w1.heap.size, 0, none⟩ 1 1 [.int .i64 z] rfl rfl (one_news (by simp)) (one_cell rfl) HN1.out HN2.out (by have := BW.out.size; simp; omega) ?_; intro v' w5 hown5 hgrow _; have HO5 := Lib.hid hown5; have B5 := Lib.hid ((BW.out.alloc BW.out.size _).grown hgrow (by have := BW.out.size; simp; omega) (fun j hj => (HO.out.lt j hj).1)); clear hown5 hgrow)
        go_roundw
        case rel => exact ⟨k + 1, by go_num, KK.out, by rw [Y.out, List.length_append, List.map_append]; exact HO5.out, B5.out⟩
        case measure => simp [intOf]; omega
      · have Y := Lib.hid (NO.out (by omega))
        clear YES NO
        go_wp2_with fail
        go_roundw
        case rel => exact ⟨k + 1, by go_num, KK.out, by rw [Y.out]; exact HO.out, BW.out⟩
        case measure => simp [intOf]; omega
    · have hltI : ¬ (k : Int) < 32 := by omega
      obtain rfl : k = 32 := by omega
      go_wp2_with fail
      go_ret
      exact ⟨_, rfl, hown, bel⟩
end Go.Proofs.YtnjkopjbognpiaaDoor
