/- Texts of one proof, one behind the other: FilLines, RefFilFault. -/
import Derived.Test.YtdpoalbbcmkceaaGreatDoorB36
import Derived.Test.YtdpoalbbcmkceaaGreatDoorB21
import Derived.Test.YtdpoalbbcmkceaaGreatDoorB18
/- Contracts of files.List, and of the statements' LongFiles. -/
namespace Go.Proofs.YtdpoalbbcmkceaaGreatDoor
open Go.RowKit
set_option linter.unusedVariables false

def PF.line (f : PF) : PL := ⟨f.n, f.d.length, csum f.d⟩
theorem infoLine : (Tryz.prog.info? 39).map (fun i => (i.zero, i.size, i.bytes)) = some (some (.agg #[.string ⟨#[]⟩, .int .i64 0, .int .u32 0]), 3, 32) := by kernel_rfl
theorem three_newsL {w : World} {b : Nat} {u0 u1 u2 : Value} {t : TypeId} (h : w.heap[b]? = some (.cells #[u0, u1, u2] t (0, 0))) : ∀ j u', [u0, u1, u2][j]? = some u' → w.cell? ((⟨b, 0, none⟩ : Addr).add j) = some u' := by
  intro j u' hj
  match j, hj with
  | 0, hj => simp at hj; subst hj; simp [World.cell?, h, Addr.add]
  | 1, hj => simp at hj; subst hj; simp [World.cell?, h, Addr.add]
  | 2, hj => simp at hj; subst hj; simp [World.cell?, h, Addr.add]
set_option maxRecDepth 100000 in
set_option maxHeartbeats 6400000 in
theorem fllist_no (E : Nat → Addr) (l : List PF) (v : Value) (w : World) (hl : SliceIs w v 2 (fcells l)) (hd : FOk l) (hlen : l.length ≤ 1000000) (hB : Has E w 2) (hN : Has E w 5) (hF : Has E w 8) (hO : Has E w 9) (hf : (flFault l).1 ≠ 0) :
    Calls Tryz.prog 12 #[v] w fun e w' => ∃ r, e = .returned (.tuple #[.slice none 0 0, r]) ∧ FErr E w' r (flFault l).1 (flFault l).2 ∧ Below w.heap.size w w' := by
  have CK := Lib.hid (flcheck_any E l v w hl hd (by omega) hB hN hF hO)
  have HF := Lib.hid hf
  clear hl hB hN hF hO hf
  go_enter Tryz.func12, Tryz.ntmps12
  go_wp2_with fail
  refine CK.out.mono ?_
  rintro e w1 ⟨r, rfl, fe, b1⟩
  have FE := Lib.hid fe
  obtain ⟨t, p, rfl⟩ := fe.some HF.out
  have HB := Lib.hid b1
  clear fe b1 CK
  go_wp2_with fail
  go_ret2
  exact ⟨_, rfl, FE.out, HB.out⟩
set_option maxRecDepth 100000 in
set_option maxHeartbeats 6400000 in
theorem fllist_yes (E : Nat → Addr) (l : List PF) (v : Value) (w : World) (hl : SliceIs w v 2 (fcells l)) (hd : FOk l) (hB : Has E w 2) (hN : Has E w 5) (hF : Has E w 8) (hO : Has E w 9) (hf : FWF l) :
    Calls Tryz.prog 12 #[v] w fun e w' => ∃ r, e = .returned (.tuple #[r, .nilIface]) ∧ w'.ownsRow w.heap.size 39 3 r l.length (lcells (l.map PF.line)) ∧ Below w.heap.size w w' := by
  have hfew := hf.few
  have CK := Lib.hid (flcheck_any E l v w hl hd (by omega) hB hN hF hO)
  have HF0 := Lib.hid ((flFault_wf l).2 hf)
  have HE := Lib.hid hf.each
  obtain ⟨s, m, c, rfl, hn, h1, h2, hg⟩ := hl.get
  rw [fcells_len] at hn
  obtain rfl : m = l.length := by omega
  unfold maxLen at h2
  have HSL := Lib.hid hl
  obtain ⟨i0, hi, hz0, hz1, hz2⟩ := info_parts infoLine
  clear hl hB hN hF hO hf hg
  go_enter Tryz.func12, Tryz.ntmps12
  go_wp2_with fail
  refine CK.out.mono ?_
  rintro e w1 ⟨r, rfl, fe, b1⟩
  rw [HF0.out] at fe
  obtain rfl := fe.zero
  have B1 := Lib.hid b1
  clear fe b1 CK
  go_wp2_with fail
  go_loopw [15, 5, 7] (fun i o _ wr => ∃ k : Nat, i = .int .i64 k ∧ k ≤ l.length ∧ wr.ownsRow w.heap.size 39 3 o k (lcells ((l.take k).map PF.line)) ∧ Below w.heap.size w wr) (fun i _ _ _ => l.length - (intOf i).toNat)
  case atStart => exact ⟨0, rfl, by omega, World.ownsRow_nil _ _ _ _, B1.out⟩
  case round =>
    obtain ⟨k, rfl, hk, hown, bel⟩ := hrel
    by_cases hlt : k < l.length
    · have hltI : (k : Int) < l.length := by omega
      obtain ⟨s0', n0', c0', e1, _, _, _, g1⟩ := (HSL.out.below bel).get
      cases e1
      obtain ⟨g2, g3⟩ := fcells_get l k hlt
      obtain ⟨ad, rfl, d0⟩ := g1 _ _ g2
      obtain ⟨a', e', d1⟩ := g1 _ _ g3
      cases e'
      clear g1 g2 g3
      have NX := Lib.hid (show lcells ((l.take (k + 1)).map PF.line) = lcells ((l.take k).map PF.line) ++ [.string (bs l[k].n), .int .i64 (l[k].d.length : Int), .int .u32 (csum l[k].d)] by
        rw [List.take_succ_eq_append_getElem hlt, List.map_append, lcells_append]; rfl)
      have hdl := (HE.out l[k] (List.getElem_mem _)).2
      have KK := Lib.hid (show k + 1 ≤ l.length by omega)
      have x1 : (0 : Int) ≤ k := by omega
      have x2 : (k : Int).toNat = k := by omega
      generalize l[k] = x at d0 d1 NX hdl
      have d1 := cell_at d1
      have hsz : (bs x.d).size = x.d.length := bs_size _
      have SM := Lib.hid (fun w' => sum_any (bs x.d) w' (by rw [bs_size]; omega))
      simp only [bs_list] at SM
      have HSZ := Lib.hid bel.size
      have HO := Lib.hid hown
      have HN1 : Hid (k + 1 ≤ maxLen) := by show _ ≤ _; unfold maxLen; omega
      have HN2 : Hid ((k + 1) * 32 ≤ 140737488355328) := by show _ ≤ _; omega
      obtain ⟨va, vc, rfl⟩ := owns_slice hown
      have BA := Lib.hid (bel.alloc bel.size (.cells #[.string (bs x.n), .string (bs x.d)] 49))
      have HOA := Lib.hid (HO.out.alloc (.cells #[.string (bs x.n), .string (bs x.d)] 49))
      clear hown
      go_wp2_with fail
      have q0 : (wr.alloc (.cells #[.string (bs x.n), .string (bs x.d)] 49)).cell? ⟨wr.heap.size, 0, none⟩ = some (.string (bs x.n)) := by simp
      have q1 : (wr.alloc (.cells #[.string (bs x.n), .string (bs x.d)] 49)).cell? ⟨wr.heap.size, 1, none⟩ = some (.string (bs x.d)) := by simp
      have hws : wr.heap.size < (wr.alloc (.cells #[.string (bs x.n), .string (bs x.d)] 49)).heap.size := by simp
      generalize wr.alloc (.cells #[.string (bs x.n), .string (bs x.d)] 49) = W0 at *
      have HN3 := Lib.hid (fun (o : Obj) => show w.heap.size ≤ ((W0.alloc o).drew).heap.size by have := BA.out.size; simp; omega)
      go_region_law (first | (refine step_append_own rfl (.tmp 19) (.tmp 29) 34 rfl w.heap.size 39 i0 _ 3 32 Tryz.underlying34 hi hz0 hz1 hz2 rfl (by decide) (.slice va k vc) k _ rfl (HOA.out.alloc _).drew ⟨W0.heap.size, 0, none⟩ 1 1 [.string (bs x.n), .int .i64 (x.d.length : Int), .int .u32 (csum x.d)] rfl rfl (three_newsL (heap_alloc_new _ _)) (fun u hu => by simp at hu; rcases hu with rfl | rfl | rfl <;> rfl) HN1.out HN2.out (HN3.out _) ?_; intro v' w5 hown5 hgrow _; have HO5 := Lib.hid hown5; have HG5 := Lib.hid (grown_undrew hgrow)) | (go_simp; go_at_call 27; refine (SM.out _).mono ?_; rintro e w' ⟨rfl, rfl⟩))
      all_goals
        go_wp2_with fail
        go_roundw
        case rel => exact ⟨k + 1, by go_num, KK.out, by rw [NX.out]; exact HO5.out, (BA.out.alloc BA.out.size _).grown HG5.out (by have := BA.out.size; simp; omega) (fun j hj => (HO.out.lt j hj).1)⟩
        case measure => simp [intOf]; omega
    · have hltI : ¬ (k : Int) < l.length := by omega
      have HEQ := Lib.hid (show l.take k = l from List.take_of_length_le (by omega))
      obtain rfl : k = l.length := by omega
      rw [HEQ.out] at hown
      go_wp2_with fail
      go_ret2
      exact ⟨_, rfl, hown, bel⟩
end Go.Proofs.YtdpoalbbcmkceaaGreatDoor
/- The document's FilesFault. -/
namespace Go.Proofs.YtdpoalbbcmkceaaGreatDoor
open Go.RowKit
set_option linter.unusedVariables false

def PF.m (f : PF) : PM := ⟨f.n, f.d.length, 0⟩
theorem m_chk (l : List PF) : (l.map PF.m).map PM.pl = l.map PF.chk := by rw [List.map_map]; rfl
set_option maxRecDepth 100000 in
set_option maxHeartbeats 6400000 in
theorem filesFault_any (l : List PF) (v : Value) (w : World) (hl : SliceIs w v 2 (fcells l)) (hnm : ∀ x ∈ l, x.n.length ≤ 1000000000 ∧ x.d.length ≤ 1000000000) (hlen : l.length ≤ 1000000) :
    Calls Tryz.prog 13 #[v] w fun e w' => e = .returned (rfv (flFault l)) ∧ Below w.heap.size w w' := by
  obtain ⟨s, n, c, rfl, hn, h1, h2, hg⟩ := hl.get
  rw [fcells_len] at hn
  obtain rfl : n = l.length := by omega
  unfold maxLen at h2
  have HSL := Lib.hid hl
  have HNM := Lib.hid hnm
  have HB0 := Lib.hid (below_one w (.cells #[.int .i64 0, .int .i64 0] 42))
  obtain ⟨i0, hi, hz0, hz1, hz2⟩ := info_parts infoM
  clear hl hg hnm
  go_enter Tryz.func13, Tryz.ntmps13
  go_wp2_with fail
  go_loopw [3, 4] (fun o i wr => ∃ k : Nat, i = .int .i64 k ∧ k ≤ l.length ∧ wr.ownsRow (w.heap.size + 1) 66 3 o k (mcells ((l.take k).map PF.m)) ∧ wr.heap[w.heap.size]? = some (.cells #[.int .i64 0, .int .i64 0] 42 (0, 0)) ∧ Below w.heap.size w wr) (fun _ i _ => l.length - (intOf i).toNat)
  case atStart => exact ⟨0, rfl, by omega, World.ownsRow_nil _ _ _ _, heap_alloc_new w _, HB0.out⟩
  case round =>
    obtain ⟨k, rfl, hk, hown, hz, bel⟩ := hrel
    have HZ := Lib.hid hz
    have BW := Lib.hid bel
    by_cases hlt : k < l.length
    · have hltI : (k : Int) < l.length := by omega
      obtain ⟨s0', n0', c0', e1, _, _, _, g1⟩ := (HSL.out.below bel).get
      cases e1
      obtain ⟨g2, g3⟩ := fcells_get l k hlt
      obtain ⟨ad, rfl, d0⟩ := g1 _ _ g2
      obtain ⟨a', e', d1⟩ := g1 _ _ g3
      cases e'
      clear g1 g2 g3
      have NX := Lib.hid (show mcells ((l.take (k + 1)).map PF.m) = mcells ((l.take k).map PF.m) ++ [.string (bs (l[k]'hlt).n), .int .i64 ((l[k]'hlt).d.length : Int), .int .i64 0] by
        rw [List.take_succ_eq_append_getElem hlt, List.map_append, mcells_append]; rfl)
      have x1 : (0 : Int) ≤ k := by omega
      have x2 : (k : Int).toNat = k := by omega
      have KK := Lib.hid (show k + 1 ≤ l.length from hlt)
      generalize l[k]'hlt = x at d0 d1 NX
      have d1 := cell_at d1
      have hsz : (bs x.d).size = x.d.length := bs_size _
      have HO := Lib.hid hown
      have HN1 : Hid (k + 1 ≤ maxLen) := by show _ ≤ _; unfold maxLen; omega
      have HN2 : Hid ((k + 1) * 32 ≤ 140737488355328) := by show _ ≤ _; omega
      have HS := Lib.hid (lt_of_block hz)
      obtain ⟨va, vc, rfl⟩ := owns_slice hown
      clear hown hz bel
      go_wp2_with fail
      go_region_law (refine step_append_own rfl (.tmp 11) (.tmp 24) 64 rfl (w.heap.size + 1) 66 i0 _ 3 32 Tryz.underlying64 hi hz0 hz1 hz2 rfl (by decide) (.slice va k vc) k _ rfl (HO.out.alloc _).drew ⟨wr.heap.size, 0, none⟩ 1 1 [.string (bs x.n), .int .i64 (x.d.length : Int), .int .i64 0] rfl rfl (three_newsL (heap_alloc_new _ _)) (fun u hu => by simp at hu; rcases hu with rfl | rfl | rfl <;> rfl) HN1.out HN2.out (by have := HS.out; simp; omega) ?_; intro v' w5 hown5 hgrow _; have HO5 := Lib.hid hown5; have HG5 := Lib.hid (grown_undrew hgrow))
      all_goals
        go_wp2_with fail
        go_roundw
        case rel => exact ⟨k + 1, by go_num, KK.out, by rw [NX.out]; exact HO5.out, ((HG5.out.block w.heap.size (by have := HS.out; simp; omega) (fun e => by have := (HO.out.lt _ e.symm).1; omega)).trans (by rw [← HZ.out]; exact heap_alloc_old _ _ HS.out)), (BW.out.alloc BW.out.size _).grown HG5.out (by have := BW.out.size; simp; omega) (fun j hj => by have := (HO.out.lt j hj).1; omega)⟩
        case measure => simp [intOf]; omega
    · have hltI : ¬ (k : Int) < l.length := by omega
      rw [List.take_of_length_le (by omega)] at hown
      obtain rfl : k = l.length := by omega
      have CK := Lib.hid (linesFault_any (l.map PF.m) _ wr (SliceIs.ownedK hown) (fun x hx => by obtain ⟨f, hf, rfl⟩ := List.mem_map.1 hx; exact (HNM.out f hf).1))
      rw [m_chk, show lnFault (l.map PF.chk) = flFault l from rfl, rfv_is] at CK
      obtain ⟨q, hq⟩ : ∃ q, flFault l = q := ⟨_, rfl⟩
      rw [hq] at CK
      have HQ := Lib.hid hq
      clear hq
      obtain ⟨va, vc, rfl⟩ := owns_slice hown
      clear hown hz bel
      go_wp2_with fail
      refine CK.out.mono ?_
      rintro e w1 ⟨rfl, b1⟩
      have hz1 := (b1.block w.heap.size (lt_of_block HZ.out)).trans HZ.out
      have f0 : w1.frozen? ⟨w.heap.size, 0, none⟩ = false := by simp [World.frozen?, hz1]
      have f1 : w1.frozen? ⟨w.heap.size, 1, none⟩ = false := by simp [World.frozen?, hz1]
      have e0 : w1.cell? ⟨w.heap.size, 0, none⟩ = some (.int .i64 0) := by simp [World.cell?, hz1]
      have e1 : w1.cell? ⟨w.heap.size, 1, none⟩ = some (.int .i64 0) := by simp [World.cell?, hz1]
      obtain ⟨r0, r1⟩ := set2 hz1 (.int .i64 q.1) (.int .i64 q.2)
      have bb := ((below_trans' BW.out b1).setCell (p := ⟨w.heap.size, 0, none⟩) (Nat.le_refl _) (.int .i64 q.1)).setCell (p := ⟨w.heap.size, 1, none⟩) (Nat.le_refl _) (.int .i64 q.2)
      go_wp2_with fail
      (try simp only [Exit.inBlock, Exit.then])
      refine bodyPost_ret (by simp [results, Tryz.results13, go_sem, r0, r1]; try rfl) rfl ?_
      exact ⟨by rw [HQ.out, rfv_is], bb⟩
end Go.Proofs.YtdpoalbbcmkceaaGreatDoor
