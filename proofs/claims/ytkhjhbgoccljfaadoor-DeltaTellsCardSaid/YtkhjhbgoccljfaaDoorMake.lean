/- Contract of delta.Make: what is new. -/
import Derived.Test.YtkhjhbgoccljfaaDoorMaker2
import Derived.Test.YtkhjhbgoccljfaaDoorSignLaws
namespace Go.Proofs.YtkhjhbgoccljfaaDoor
open Go.RowKit
set_option linter.unusedVariables false

/-- ops of the rest of a file -/
def mkA (l : List Blk) (size : Nat) : Nat → List UInt8 → List POp → List POp
  | 0, _, out => out
  | f + 1, s, out => if s = [] then out else
      if 0 ≤ findI l (blk (s.take size)) then mkA l size f (s.drop size) (addCopy out (findI l (blk (s.take size))))
      else mkA l size f (s.drop 1) (addData out (s.take 1))
def mkOps (l : List Blk) (size : Nat) (s : List UInt8) : List POp := mkA l size s.length s []
theorem mkA_end (l : List Blk) (size f : Nat) (out : List POp) : mkA l size f [] out = out := by cases f <;> simp [mkA]
theorem mkA_copy {l : List Blk} {size f : Nat} {s : List UInt8} {out : List POp} (hs : s ≠ []) (h : 0 ≤ findI l (blk (s.take size))) :
    mkA l size (f + 1) s out = mkA l size f (s.drop size) (addCopy out (findI l (blk (s.take size)))) := by rw [mkA, if_neg hs, if_pos h]
theorem mkA_data {l : List Blk} {size f : Nat} {s : List UInt8} {out : List POp} (hs : s ≠ []) (h : ¬ 0 ≤ findI l (blk (s.take size))) :
    mkA l size (f + 1) s out = mkA l size f (s.drop 1) (addData out (s.take 1)) := by rw [mkA, if_neg hs, if_neg h]
attribute [irreducible] mkA

/-- ops that are well, of i bytes -/
def OkOp (o : POp) (i : Nat) : Prop := (o.kind = kCopy ∧ o.data = [] ∧ 0 ≤ o.a ∧ o.a ≤ 4000 ∧ 1 ≤ o.n ∧ o.n ≤ i) ∨ (o.kind = kData ∧ o.a = 0 ∧ o.n = 0 ∧ 1 ≤ o.data.length ∧ o.data.length ≤ i)
def OkOut (out : List POp) (i : Nat) : Prop := out.length ≤ i ∧ costN out ≤ i ∧ ∀ o ∈ out, OkOp o i
theorem OkOp.mono {o : POp} {i j : Nat} (h : OkOp o i) (hj : i ≤ j) : OkOp o j := by
  rcases h with ⟨h1, h2, h3, h4, h5, h6⟩ | ⟨h1, h2, h3, h4, h5⟩
  · exact .inl ⟨h1, h2, h3, h4, h5, by omega⟩
  · exact .inr ⟨h1, h2, h3, h4, by omega⟩
theorem OkOut.nil (i : Nat) : OkOut [] i := ⟨by simp, by rw [costN_nil]; omega, by simp⟩
theorem OkOut.mono {out : List POp} {i j : Nat} (h : OkOut out i) (hj : i ≤ j) : OkOut out j := ⟨by have := h.1; omega, by have := h.2.1; omega, fun o ho => (h.2.2 o ho).mono hj⟩
theorem OkOut.copy {out : List POp} {i : Nat} {k : Int} (h : OkOut out i) (hk : 0 ≤ k ∧ k ≤ 4000) : OkOut (addCopy out k) (i + 1) := by
  obtain ⟨h1, h2, h3⟩ := h
  have hnew : OkOp ⟨kCopy, k, 1, []⟩ (i + 1) := .inl ⟨rfl, rfl, hk.1, hk.2, by simp, by simp only []; omega⟩
  rcases split_last out with rfl | ⟨m, o, rfl⟩
  · rw [addCopy_nil]
    exact ⟨by simp, by rw [costN_append, costN_nil, costN_one]; simp, fun o ho => by simp at ho; subst ho; exact hnew⟩
  · by_cases hc : o.kind = kCopy ∧ o.a + o.n = k
    · rw [addCopy_more m o k hc]
      refine ⟨by simp at h1 ⊢; omega, by rw [costN_append, costN_one] at h2 ⊢; simp only []; omega, fun x hx => ?_⟩
      rcases List.mem_append.1 hx with hx | hx
      · exact (h3 x (by simp [hx])).mono (by omega)
      · simp at hx; subst hx
        rcases h3 o (by simp) with ⟨g1, g2, g3, g4, g5, g6⟩ | ⟨g1, _⟩
        · exact .inl ⟨g1, g2, g3, g4, by simp only []; omega, by simp only []; omega⟩
        · rw [hc.1] at g1; exact absurd g1.symm kne
    · rw [addCopy_new m o k hc]
      refine ⟨by simp at h1 ⊢; omega, by rw [costN_append, costN_one]; simp only [List.length_nil]; omega, fun x hx => ?_⟩
      rcases List.mem_append.1 hx with hx | hx
      · exact (h3 x hx).mono (by omega)
      · simp at hx; subst hx; exact hnew
theorem OkOut.data {out : List POp} {i : Nat} {d : List UInt8} (h : OkOut out i) (hd : d.length = 1) : OkOut (addData out d) (i + 1) := by
  obtain ⟨h1, h2, h3⟩ := h
  have hnew : OkOp ⟨kData, 0, 0, d⟩ (i + 1) := .inr ⟨rfl, rfl, rfl, by simp only []; omega, by simp only []; omega⟩
  rcases split_last out with rfl | ⟨m, o, rfl⟩
  · rw [addData_nil]
    exact ⟨by simp, by rw [costN_append, costN_nil, costN_one]; simp only []; omega, fun o ho => by simp at ho; subst ho; exact hnew⟩
  · by_cases hc : o.kind = kData
    · rw [addData_more m o d hc]
      refine ⟨by simp at h1 ⊢; omega, by rw [costN_append, costN_one] at h2 ⊢; simp only [List.length_append]; omega, fun x hx => ?_⟩
      rcases List.mem_append.1 hx with hx | hx
      · exact (h3 x (by simp [hx])).mono (by omega)
      · simp at hx; subst hx
        rcases h3 o (by simp) with ⟨g1, _⟩ | ⟨g1, g2, g3, g4, g5⟩
        · rw [hc] at g1; exact absurd g1 kne
        · exact .inr ⟨g1, g2, g3, by simp only [List.length_append]; omega, by simp only [List.length_append]; omega⟩
    · rw [addData_new m o d hc]
      refine ⟨by simp at h1 ⊢; omega, by rw [costN_append, costN_one]; simp only []; omega, fun x hx => ?_⟩
      rcases List.mem_append.1 hx with hx | hx
      · exact (h3 x hx).mono (by omega)
      · simp at hx; subst hx; exact hnew
theorem OkOut.bounds {out : List POp} {i : Nat} (h : OkOut out i) (hi : i ≤ 4000) : out.length ≤ 1000000 ∧ ∀ o ∈ out, 0 ≤ o.a ∧ o.a ≤ 1000000 ∧ 0 ≤ o.n ∧ o.n ≤ 1000000 ∧ o.data.length ≤ 1000000 := by
  refine ⟨by have := h.1; omega, fun o ho => ?_⟩
  rcases h.2.2 o ho with ⟨g1, g2, g3, g4, g5, g6⟩ | ⟨g1, g2, g3, g4, g5⟩
  · rw [g2]; refine ⟨g3, by omega, by omega, by omega, by simp⟩
  · rw [g2, g3]; refine ⟨by omega, by omega, by omega, by omega, by omega⟩
theorem OkOut.chk {out : List POp} {i : Nat} (h : OkOut out i) (hi : i ≤ 4000) : ∀ o ∈ out, opC o = 0 := by
  intro o ho
  rcases h.2.2 o ho with ⟨g1, g2, g3, g4, g5, g6⟩ | ⟨g1, g2, g3, g4, g5⟩
  · exact opC_fine g1 g2 ⟨⟨g3, g4⟩, g5, by omega⟩
  · exact opD_fine (by rw [g1]; exact kne) g1 ⟨g2, g3⟩ ⟨g4, by omega⟩
theorem findB_bd : ∀ (l : List Blk) (x : Blk) (i : Nat), -1 ≤ findB l x i ∧ findB l x i < (i + l.length : Nat) ∧ (0 ≤ findB l x i → ∃ j, ∃ h : j < l.length, findB l x i = (i + j : Nat) ∧ l[j] = x)
  | [], x, i => by
    have e : findB ([] : List Blk) x i = -1 := by have := findB_end [] x i (by simp); simpa using this
    rw [e]; simp; omega
  | b :: l, x, i => by
    rw [findB_cons]
    split
    · rename_i h
      exact ⟨by omega, by simp; omega, fun _ => ⟨0, by simp, by simp, h⟩⟩
    · obtain ⟨h1, h2, h3⟩ := findB_bd l x (i + 1)
      refine ⟨h1, by simp; omega, fun h => ?_⟩
      obtain ⟨j, hj, e1, e2⟩ := h3 h
      exact ⟨j + 1, by simpa using hj, by rw [e1]; omega, by simpa using e2⟩
theorem findI_bd (l : List Blk) (x : Blk) : -1 ≤ findI l x ∧ findI l x < l.length := by
  have := findB_bd l x 0
  unfold findI; omega
theorem findI_get {l : List Blk} {x : Blk} (h : 0 ≤ findI l x) : ∃ j, ∃ hj : j < l.length, findI l x = (j : Nat) ∧ l[j] = x := by
  obtain ⟨j, hj, e1, e2⟩ := (findB_bd l x 0).2.2 h
  exact ⟨j, hj, by unfold findI; rw [e1]; simp, e2⟩

theorem sub_part (s : ByteArray) (i k e : Nat) (hk : e = i + k) : (s.extract i e).data.toList = (s.data.toList.drop i).take k := by
  subst hk
  simp [List.extract_eq_take_drop]

set_option maxRecDepth 100000 in
set_option maxHeartbeats 3200000 in
theorem make_any (E : Nat → Addr) (s0 : Option Addr) (n0 c0 : Nat) (l : List Blk) (size : Int) (s : ByteArray) (w : World) (hl : SliceIs w (.slice s0 n0 c0) 3 (bcells l)) (hB : Has E w 2) (hF : Has E w 8)
    (hck : (chk l size).1 = 0) (hs : s.size ≤ 4000) :
    Calls Tryd.prog 31 #[.slice s0 n0 c0, .int .i64 size, .string s] w fun e w' => ∃ v, e = .returned (.tuple #[v, .nilIface]) ∧
      w'.ownsRow w.heap.size 67 4 v (mkOps l size.toNat s.data.toList).length (ocells (mkOps l size.toNat s.data.toList)) ∧ Below w.heap.size w w' := by
  obtain ⟨z1, z2, z3, _⟩ := chk_ok hck
  obtain ⟨z, rfl⟩ : ∃ z : Nat, size = z := ⟨size.toNat, by omega⟩
  rw [Int.toNat_natCast]
  have hlen : l.length = n0 := by
    obtain ⟨s0', n0', c0', e1, e2, _, _, _⟩ := hl.get
    cases e1
    rw [bcells_len] at e2; omega
  have CK := check_any E s0 n0 c0 l z w hl hB hF
  rw [hck] at CK
  have HCK := Lib.hid CK
  have HLS := Lib.hid hl
  have hLl : s.data.toList.length = s.size := by simp
  have HM : Hid (mkOps l z s.data.toList = mkA l z s.size (s.data.toList.drop 0) []) := by
    show _ = _
    unfold mkOps
    rw [hLl]; rfl
  have hsI : ¬ (4000 : Int) < s.size := by omega
  have hz1 : 1 ≤ z := by omega
  have hz2 : z ≤ 64 := by omega
  have HLEN := Lib.hid hLl
  clear CK hck hl hB hF z1 z2 hLl
  go_enter Tryd.func31, Tryd.ntmps31
  go_wp2_with fail
  refine HCK.out.mono ?_
  rintro e w1 ⟨v1, rfl, fe, b1⟩
  rw [fe.zero]
  clear fe
  have M0 := MAt.new w1
  have bA := b1.alloc b1.size (.cells #[.slice none 0 0] 111)
  have hb : w.heap.size ≤ w1.heap.size := b1.size
  go_wp2_with fail
  generalize w1.alloc (.cells #[.slice none 0 0] 111) = w2 at M0 bA ⊢
  generalize w1.heap.size = b at M0 hb ⊢
  clear b1
  go_loopw [10, 11, 12] (fun i _ _ wr => ∃ (k f : Nat) (out : List POp), i = .int .i64 k ∧ k ≤ s.size ∧ s.size ≤ k + f ∧ OkOut out k ∧ mkOps l z s.data.toList = mkA l z f (s.data.toList.drop k) out ∧ MAt wr b out ∧ Below w.heap.size w wr) (fun i _ _ _ => s.size - (intOf i).toNat)
  case atStart => exact ⟨0, s.size, [], rfl, by omega, by omega, OkOut.nil 0, HM.out, M0, bA⟩
  case round =>
    clear M0 bA
    obtain ⟨k, f, out, rfl, hk, hf, hok, hm, M, bel⟩ := hrel
    have HMM := Lib.hid hm
    have HOK := Lib.hid hok
    obtain ⟨hb1, hb2⟩ := hok.bounds (by omega)
    have HB2 := Lib.hid hb2
    clear hm hok hb2
    by_cases hlt : k < s.size
    · have hltI : (k : Int) < s.size := by omega
      obtain ⟨g, rfl⟩ : ∃ g, f = g + 1 := ⟨f - 1, by omega⟩
      have hne : s.data.toList.drop k ≠ [] := by
        intro e
        have := congrArg List.length e
        simp at this; omega
      have HC := Lib.hid (fun h => HMM.out.trans (mkA_copy (l := l) (size := z) (f := g) (out := out) hne h))
      have HD := Lib.hid (fun h => HMM.out.trans (mkA_data (l := l) (size := z) (f := g) (out := out) hne h))
      clear hne
      rw [List.drop_drop] at HC HD
      obtain ⟨j, hj, hj1, hj2⟩ : ∃ j : Nat, ((z : Int) ≤ (s.size : Int) - k ∧ j = z ∨ (s.size : Int) - k < z ∧ j = s.size - k) ∧ 1 ≤ j ∧ k + j ≤ s.size := by
        by_cases h : (z : Int) ≤ (s.size : Int) - k
        · exact ⟨z, .inl ⟨h, rfl⟩, hz1, by omega⟩
        · exact ⟨s.size - k, .inr ⟨by omega, rfl⟩, by omega, by omega⟩
      have HX : Hid ((s.extract k (k + j)).data.toList = (s.data.toList.drop k).take z) := by
        show _ = _
        rw [sub_part s k j (k + j) rfl]
        rcases hj with ⟨_, h⟩ | ⟨h0, h⟩
        · rw [h]
        · rw [List.take_of_length_le (by simp; omega), List.take_of_length_le (by simp; omega)]
      have HX1 : Hid (s.extract k (k + 1) = bs ((s.data.toList.drop k).take 1)) := eq_bs (sub_part s k 1 (k + 1) rfl)
      have HDR : Hid (s.data.toList.drop (k + z) = s.data.toList.drop (k + j)) := by
        show _ = _
        rcases hj with ⟨_, h⟩ | ⟨h0, h⟩
        · rw [h]
        · rw [List.drop_eq_nil_of_le (by simp; omega), List.drop_eq_nil_of_le (by simp; omega)]
      have FI := find_any s0 n0 c0 l (s.extract k (k + j)) wr (by simp; omega) (HLS.out.below bel)
      rw [HX.out] at FI
      have hfb := findI_bd l (blk ((s.data.toList.drop k).take z))
      generalize findI l (blk ((s.data.toList.drop k).take z)) = fi at FI HC HD hfb
      have HFI := Lib.hid FI
      have x1 : (0 : Int) ≤ k := by omega
      have x2 : (k : Int) ≤ (k : Int) + j := by omega
      have x3 : (k : Int) + j ≤ s.size := by omega
      have x4 : ((k : Int) + j).toNat = k + j := by omega
      have x5 : (k : Int) ≤ (k : Int) + 1 := by omega
      have x6 : (k : Int) + 1 ≤ s.size := by omega
      have x7 : ((k : Int) + 1).toNat = k + 1 := by omega
      clear FI
      have hj' : ((z : Int) ≤ (s.size : Int) - k ∧ j = z) ∨ ((s.size : Int) - k < z ∧ Value.int .i64 ((s.size : Int) - k) = Value.int .i64 j) := by
        rcases hj with ⟨h1, h2⟩ | ⟨h1, h2⟩
        · exact .inl ⟨h1, h2⟩
        · exact .inr ⟨h1, by congr 1; omega⟩
      clear hj
      rcases hj' with ⟨h, rfl⟩ | ⟨h, e3⟩
      all_goals
        by_cases hfi : 0 ≤ fi
        · have HC' := Lib.hid (HC.out hfi)
          clear HC HD
          go_wp2_with fail
          refine HFI.out.mono ?_
          rintro e w3 ⟨rfl, b3⟩
          have M3 := M.below b3
          have bel3 := below_trans' bel b3
          clear b3 M bel HFI
          go_wp2_with fail
          refine (mcopy_any b out fi w3 M3 hb1 HB2.out (by omega)).mono ?_
          rintro e w4 ⟨rfl, M4, b4⟩
          have bel4 := bel3.trans (b4.mono hb)
          clear b4 M3 bel3
          have REL := Lib.hid (HC'.out)
          try rw [HDR.out] at REL
          have HOK' := Lib.hid ((HOK.out.copy (k := fi) (by omega)).mono (show k + 1 ≤ k + j by omega))
          have HK' := Lib.hid (show k + j ≤ s.size ∧ s.size ≤ k + j + g by omega)
          go_wp2_with fail
          go_roundw
          case rel => exact ⟨k + j, g, _, by go_num, HK'.out.1, HK'.out.2, HOK'.out, REL.out, M4, bel4⟩
          case measure => simp [intOf]; omega
        · have HD' := Lib.hid (HD.out hfi)
          clear HC HD
          go_wp2_with fail
          refine HFI.out.mono ?_
          rintro e w3 ⟨rfl, b3⟩
          have M3 := M.below b3
          have bel3 := below_trans' bel b3
          clear b3 M bel HFI
          go_wp2_with fail
          have MD := mdata_any b out ((s.data.toList.drop k).take 1) w3 M3 hb1 HB2.out (by simp; omega)
          rw [← HX1.out] at MD
          refine MD.mono ?_
          rintro e w4 ⟨rfl, M4, b4⟩
          have bel4 := bel3.trans (b4.mono hb)
          clear b4 M3 bel3 MD
          have HOK' := Lib.hid (HOK.out.data (d := (s.data.toList.drop k).take 1) (by simp; omega))
          have HK' := Lib.hid (show k + 1 ≤ s.size ∧ s.size ≤ k + 1 + g by omega)
          go_wp2_with fail
          go_roundw
          case rel => exact ⟨k + 1, g, _, by go_num, HK'.out.1, HK'.out.2, HOK'.out, HD'.out, M4, bel4⟩
          case measure => simp [intOf]; omega
    · have hltI : ¬ (k : Int) < s.size := by omega
      have hdn : s.data.toList.drop k = [] := List.drop_eq_nil_of_le (by simp; omega)
      have HME := HMM.out
      rw [hdn, mkA_end] at HME
      obtain ⟨v, hv⟩ := M
      have c0 := hv.c0
      have HOWN := Lib.hid (owns_mono hv.2 (show w.heap.size ≤ b + 1 by omega))
      have HE := Lib.hid HME
      clear HME hdn hv
      go_wp2_with fail
      go_ret2
      exact ⟨v, rfl, by rw [HE.out]; exact HOWN.out, bel⟩
end Go.Proofs.YtkhjhbgoccljfaaDoor
