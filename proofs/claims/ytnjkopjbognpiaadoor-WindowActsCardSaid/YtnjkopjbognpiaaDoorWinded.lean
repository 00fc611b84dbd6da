/- The closed fact 'windowed'; one text pushed, told, answered. -/
import Derived.Test.YtnjkopjbognpiaaDoorWinS
namespace Go.Proofs.YtnjkopjbognpiaaDoor
open Go.RowKit
set_option linter.unusedVariables false

theorem rd_push {n : Int} {s : List UInt8} (h : s.length ≤ 20000) : pushC n [] s = 0 := pushC_nil (by omega)
theorem rd_n (n : Int) : pushN 0 n = n := rfl
theorem rd_x (n : Int) : pushX 0 n = md (n + 1) := rfl
theorem rd_l (n : Int) (s : List UInt8) : pushL 0 n [] s = [⟨n, s⟩] := rfl
theorem rd_take {n : Int} {s : List UInt8} (h : 0 ≤ n ∧ n < 65536) : takeR n [] n s = ([s], md (n + 1), []) := by
  have h1 : lk (mput [] n s) n = some s := lk_put_same _ _ _
  have h2 : mdel (mput [] n s) n = [] := by simp [mput, mdel]
  rw [takeR_yes ⟨wlB_of h, rfl, by unfold md; omega⟩, show (mput [] n s).length = 0 + 1 from rfl, drain_some h1, h2]
  rfl
theorem rd_again {n : Int} {s : List UInt8} (h : 0 ≤ n ∧ n < 65536) : takeR (md (n + 1)) [] n s = ([], md (n + 1), []) := takeR_no (fun h2 => by
  have := h2.2.2
  unfold md at this
  omega)
theorem rd_ack (d : Int) : ackMore d [] = [] := by
  unfold ackMore
  rw [List.filter_eq_nil_iff]
  intro x _ h
  rw [lk_nil] at h; cases h
theorem rd_stake {n : Int} {s : List UInt8} (h : 0 ≤ n ∧ n < 65536) : sTake (md (n + 1)) [⟨n, s⟩] (md (n + 1)) [] = [] := by
  have h1 : md (md (n + 1) - n) = 1 := by unfold md; omega
  have h2 : md 0 = 0 := by unfold md; decide
  have hf : farOf (md (n + 1)) n (md (n + 1)) = 1 := by unfold farOf; rw [md_well, h1]; simp
  rw [sTake_cons, hf]
  simp [goneB, h2]
theorem ahead_next {last : Int} (h : 0 ≤ last ∧ last < 65536) : aheadB last (md (last + 1)) = true := by
  unfold aheadB
  rw [wlB_of h, md_well]
  have : md (md (last + 1) - last) = 1 := by unfold md; omega
  rw [this]; rfl
theorem ahead_not (a b : Int) (h : aheadB a b = true) : aheadB b a = false := by
  unfold aheadB at *
  simp only [Bool.and_eq_true, decide_eq_true_eq] at h
  obtain ⟨⟨h1, h2⟩, h3, h4⟩ := h
  have : ¬ md (a - b) < 32768 := by unfold md at *; omega
  simp [this]
theorem ahead_self (a : Int) : aheadB a a = false := by
  unfold aheadB
  have : md 0 = 0 := by unfold md; decide
  simp [this]
theorem st0 : stN 65535 = 65535 := by unfold stN md; decide
theorem md0 : md (65535 + 1) = 0 := by unfold md; decide
theorem md0' : md 65536 = 0 := by unfold md; decide
theorem ahead0 : aheadB 65535 0 = true := by have := ahead_next (last := 65535) (by decide); rwa [md0] at this
theorem sliceIs_lit (w : World) (b : Nat) (x : List UInt8) (t : TypeId) (h : w.heap[b]? = some (.cells #[.string (bs x)] t (0, 0))) : SliceIs w (.slice (some ⟨b, 0, none⟩) 1 1) 1 ([x].map fun x => Value.string (bs x)) :=
  .inr ⟨⟨b, 0, none⟩, 1, 1, rfl, Nat.le_refl _, by unfold maxLen; omega, rfl, fun i u hi => by
    match i, hi with
    | 0, hi => simp at hi; subst hi; simp [World.cell?, h, Addr.add]⟩
theorem bs_x : bs [120] = ⟨#[120]⟩ := by unfold bs; rfl
attribute [local irreducible] takeR sTake ackMore aheadB
set_option maxRecDepth 100000 in
set_option maxHeartbeats 6400000 in
theorem windowed_ok (E : Nat → Addr) (w : World) (hB : Has E w 2) (hF : Has E w 8) : Calls Tryd.prog 4 #[] w fun e w' => e = .returned (.bool true) ∧ Below w.heap.size w w' := by
  have NS := Lib.hid (newsnd_any 65535 w)
  have NR := Lib.hid (fun w' => newrcv_any 65535 w')
  have HS := Lib.hid st0
  have HBd := Lib.hid hB
  have HFd := Lib.hid hF
  clear hB hF
  have AH := Lib.hid (fun w' => wahead_any 65535 0 w')
  rw [ahead0] at AH
  go_enter Tryd.func4, Tryd.ntmps4
  go_wp2_with fail
  refine NS.out.mono ?_
  rintro e w1 ⟨sb, rfl, hsnd, b1⟩
  rw [HS.out] at hsnd
  go_wp2_with fail
  refine (NR.out _).mono ?_
  rintro e w2 ⟨rb, mb, rfl, hrcv, b2, q1, q2⟩
  rw [HS.out] at hrcv
  have W2 := Lib.hid (WinS.begin hsnd b1 hrcv b2 q1 q2)
  clear hsnd b1 hrcv b2 q1 q2
  have PU := push_w E [120] W2.out (by unfold maxLen; decide) HBd.out HFd.out (by decide)
  rw [rd_push (by decide), rd_n, rd_x, rd_l, ev_zero, md0, bs_x] at PU
  have HPU := Lib.hid PU
  clear PU
  go_wp2_with fail
  refine HPU.out.mono ?_
  rintro e w3 ⟨rfl, F3, W3, L3⟩
  have TK := rtake_w 65535 [120] W3 (by decide) (by unfold maxLen; decide) (by decide)
  rw [rd_take (by decide), md0, bs_x] at TK
  have HTK := Lib.hid TK
  clear TK W3 L3 HPU
  go_wp2_with fail
  refine HTK.out.mono ?_
  rintro e w4 ⟨r, rfl, hr, W4, L4⟩
  have hr : w4.ownsRow w3.heap.size 9 1 r 1 ([[120]].map fun x => Value.string (bs x)) := hr
  obtain ⟨va, vc, rfl⟩ := owns_slice hr
  have AK := rack_w W4
  rw [rd_ack] at AK
  have HAK := Lib.hid AK
  have HR := Lib.hid hr
  have HFR := Lib.hid W4.lo
  clear AK W4 L4 HTK hr
  go_wp2_with fail
  refine HAK.out.mono ?_
  rintro e w5 ⟨mv, rfl, hm, hmv, W5, b5⟩
  have SL := SliceIs.owned (owns_below HR.out b5)
  obtain ⟨ms, mn, mc, rfl, hml, _, _, _⟩ := hm.get
  simp at hml
  subst hml
  have sz1 : (w5.alloc (.cells #[.int .i64 0, .slice ms 0 mc] 49)).heap.size = w5.heap.size + 1 := by simp
  have b7 : Below w5.heap.size w5 ((w5.alloc (.cells #[.int .i64 0, .slice ms 0 mc] 49)).alloc (.cells #[.string ⟨#[120]⟩] 9)) := (wb_alloc w5 _).alloc (by simp) _
  have SM := sameTexts_is (.slice va 1 vc) (.slice (some ⟨w5.heap.size + 1, 0, none⟩) 1 1) [[120]] [[120]] _ (SL.below b7) (sliceIs_lit _ _ _ 9 (by
    have := heap_alloc_new (w5.alloc (.cells #[.int .i64 0, .slice ms 0 mc] 49)) (.cells #[.string ⟨#[120]⟩] 9)
    rw [sz1] at this
    rw [bs_x]; exact this))
  rw [show (([[120]] : List (List UInt8)) == [[120]]) = true by decide] at SM
  have ST := fun (n : Nat) => stake_w (.slice ms 0 mc) 0 [] ((W5.below b7).below ((Drew.drewN _ n).below _)) ((hm.below b7).drewN n) hmv (by decide)
  rw [show sTake 0 [⟨65535, [120]⟩] 0 [] = [] by have := rd_stake (n := 65535) (s := [120]) (by decide); rwa [md0] at this] at ST
  have HSM := Lib.hid SM
  have HST := Lib.hid ST
  clear SM ST hm hmv W5 SL b7
  go_wp2_with fail
  refine HSM.out.mono ?_
  rintro e w8 ⟨rfl, nq, rfl⟩
  go_wp2_with fail
  refine (HST.out nq).mono ?_
  rintro e w9 ⟨rfl, F9, W9, L9⟩
  have W9' := Lib.hid W9.bel
  clear W9 L9
  go_wp2_with fail
  refine (AH.out _).mono ?_
  rintro e w10 ⟨rfl, rfl⟩
  go_wp2_with fail
  go_ret
  exact ⟨rfl, W9'.out⟩
end Go.Proofs.YtnjkopjbognpiaaDoor
