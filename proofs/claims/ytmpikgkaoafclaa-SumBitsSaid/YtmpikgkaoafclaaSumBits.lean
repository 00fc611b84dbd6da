/- The walk of the law SumBits. -/
import Derived.Test.YtmpikgkaoafclaaSumJoin
import Derived.Laws.IdiomStrings
namespace Go.Proofs.Ytmpikgkaoafclaa
open Go.RowKit

/-- a text's bytes, laid anew -/
theorem conv_text {P : Program} (w : World) (src dst e : TypeId) (s : ByteArray) (hs : P.underlying src = some .string) (hd : P.underlying dst = some (.slice e)) (he : P.underlying e = some (.int .u8)) :
    ∃ (cap : Nat) (o : Obj), (convert src dst (.string s)).run P w = .ok (.slice (some ⟨w.heap.size, 0, none⟩) s.size cap) ((w.alloc o).drew) ∧ s.size ≤ cap ∧
      (∀ i (h : i < s.size), (w.alloc o).cell? ⟨w.heap.size, i, none⟩ = some (.int .u8 s[i].toNat)) ∧ ∀ i, i < s.size → (w.alloc o).frozen? ⟨w.heap.size, i, none⟩ = false := by
  have hcap := grownCap_ge w s.size 0 e
  have hsz : (bytesRow s (grownCap w s.size 0 e)).size = grownCap w s.size 0 e := by
    simp [bytesRow]; show s.size + _ = _; omega
  refine ⟨_, _, run_bytes_of_string w src dst e s hs hd he, hcap, fun i h => ?_, fun i h => ?_⟩
  · simp only [World.cell?]
    rw [heap_alloc_new]
    simp only []
    have : (bytesRow s (grownCap w s.size 0 e))[i]? = some (.int .u8 s[i].toNat) := by
      unfold bytesRow
      rw [Array.getElem?_append_left (by simpa using h)]
      rw [Array.getElem?_map, Array.getElem?_eq_getElem (show i < s.data.size from h)]
      rfl
    simpa using this
  · simp only [World.frozen?]
    rw [heap_alloc_new]
    simp
    omega

/-- the text of bytes of which one was stored anew -/
theorem conv_back {P : Program} (w : World) (src dst e : TypeId) (g cap p : Nat) (s : ByteArray) (y : UInt8) (hs : P.underlying src = some (.slice e)) (he : P.underlying e = some (.int .u8)) (hd : P.underlying dst = some .string) (hp : p < s.size)
    (hc : ∀ i (h : i < s.size), w.cell? ⟨g, i, none⟩ = some (.int .u8 s[i].toNat)) :
    (convert src dst (.slice (some ⟨g, 0, none⟩) s.size cap)).run P ((w.setCell ⟨g, p, none⟩ (.int .u8 y.toNat)).drew) = .ok (.string ⟨(s.data.toList.set p y).toArray⟩) ((w.setCell ⟨g, p, none⟩ (.int .u8 y.toNat)).drew) := by
  have hl : (s.data.toList.set p y).length = s.size := by simp
  have := run_convert_bytes_back (P := P) ((w.setCell ⟨g, p, none⟩ (.int .u8 y.toNat)).drew) src dst e ⟨g, 0, none⟩ cap (s.data.toList.set p y) hs he hd (fun j hj => by
    have hadd : (⟨g, 0, none⟩ : Addr).add j = ⟨g, j, none⟩ := by unfold Addr.add; split <;> simp_all
    rw [hadd]
    show (w.setCell ⟨g, p, none⟩ (.int .u8 y.toNat)).cell? _ = _
    have hj2 : j < s.size := by rw [hl] at hj; exact hj
    by_cases hpj : p = j
    · subst hpj
      rw [World.cell?_setCell_same _ _ _ (hc p hp)]
      simp
    · rw [World.cell?_setCell_other _ _ _ _ (by simp only [ne_eq, Addr.mk.injEq, not_and]; intro _ h; exact absurd h hpj), hc j hj2]
      simp [hpj]
      rfl)
  rwa [hl] at this

/-- what the law asks, of lists -/
structure Flip (l : List UInt8) (p : Nat) (x : UInt8) (l' : List UInt8) : Prop where
  all : csum l' ≠ csum l
  head : csum (l.take (p + 1)) ≠ csum (l'.take (p + 1))
  rest : citer (8 * (l.length - (p + 1))) (csum (l.take (p + 1))) ^^^ citer (8 * (l.length - (p + 1))) (csum (l'.take (p + 1))) = csum l ^^^ csum l'
theorem flip_of (l : List UInt8) (p : Nat) (x : UInt8) (h : p < l.length) (hx : x.toNat ≠ 0) : Flip l p x (l.set p (l[p] ^^^ x)) := by
  obtain ⟨h1, h2⟩ := flip_shape l p x h
  have t1 : (l.set p (l[p] ^^^ x)).take (p + 1) = l.take p ++ (l[p] ^^^ x) :: [] := by
    rw [List.take_succ_eq_append_getElem (by simpa using h)]
    simp [List.take_set_of_le]
  have t2 : l.take (p + 1) = l.take p ++ l[p] :: [] := List.take_succ_eq_append_getElem h
  have hlen : (l.drop (p + 1)).length = l.length - (p + 1) := by simp
  have e1 := csum_flip (l.take p) (l.drop (p + 1)) l[p] x
  have e2 := csum_flip (l.take p) [] l[p] x
  refine ⟨?_, ?_, ?_⟩
  · rw [h1]; conv => rhs; rw [h2]
    exact csum_flip_ne _ _ _ _ hx
  · rw [t1, t2]; exact (csum_flip_ne _ _ _ _ hx).symm
  · rw [t1, t2, e2, citer_xor]
    rw [← h1, ← h2, hlen] at e1
    rw [e1]
    simp only [List.length_nil, Nat.mul_zero]
    have h0 : citer 0 (citer 8 x.toNat) = citer 8 x.toNat := by simp [citer]
    rw [h0, ← Nat.xor_assoc, ← Nat.xor_assoc, Nat.xor_self, Nat.xor_self, Nat.zero_xor]

set_option maxRecDepth 100000 in
set_option maxHeartbeats 1600000 in
theorem sumBits_walk (s : ByteArray) (at_ : Int) (w : World) :
    Calls Try.prog 8 #[.string s, .int .i64 at_] w fun e w' => e = .returned (.bool true) ∧ Below w.heap.size w w' := by
  by_cases h : 1 ≤ s.size ∧ s.size ≤ 300 ∧ 0 ≤ at_ ∧ at_ < 8 * s.size
  · obtain ⟨h1, h2, h3, h4⟩ := h
    obtain ⟨m, rfl⟩ := Int.eq_ofNat_of_zero_le h3
    obtain ⟨p, hp⟩ : ∃ p, p = m / 8 := ⟨_, rfl⟩
    obtain ⟨q, hq⟩ : ∃ q, q = m % 8 := ⟨_, rfl⟩
    have hps : p < s.size := by omega
    have hq8 : q < 8 := by omega
    have e1 : (m : Int) / 8 = (p : Int) := by omega
    have e2 : (m : Int) % 8 = (q : Int) := by omega
    clear hp hq
    go_enter Try.func8, Try.ntmps8
    go_wp2_with fail
    refine (summed_any _).mono ?_
    rintro e w1 ⟨rfl, hb1⟩
    obtain ⟨cap, o, hcv, hcap, hcell, hfr⟩ := conv_text (P := Try.prog) w1 9 23 5 s Try.underlying9 Try.underlying23 Try.underlying5
    have hc := hcell p hps
    have hf := hfr p hps
    have HC := Lib.hid hcell
    obtain ⟨x, hx⟩ : ∃ x : UInt8, x = UInt8.ofNat (2 ^ q) := ⟨_, rfl⟩
    have hq256 : 2 ^ q < 256 := by
      have := Nat.pow_lt_pow_right (show 1 < 2 by decide) hq8
      simpa using this
    have hxn : x.toNat = 2 ^ q := by rw [hx]; simp; omega
    have hxpos : 0 < 2 ^ q := Nat.two_pow_pos q
    have hpw : (2 : Int) ^ q % 256 = (x.toNat : Int) := by
      have h2 : ((2 : Int) ^ q) = ((2 ^ q : Nat) : Int) := by simp
      rw [h2, hxn]
      generalize (2 ^ q : Nat) = z at *
      omega
    obtain ⟨y, hy⟩ : ∃ y : UInt8, y = s[p] ^^^ x := ⟨_, rfl⟩
    have hxor : bits .xor .u8 (s[p].toNat : Int) (x.toNat : Int) = (y.toNat : Int) := by
      rw [u8_xor_nat _ _ s[p].toNat_lt x.toNat_lt, hy, UInt8.toNat_xor]
    have hback := conv_back (P := Try.prog) (w1.alloc o) 23 9 5 w1.heap.size cap p s y Try.underlying23 Try.underlying5 Try.underlying9 hps hcell
    have hflip := flip_of s.data.toList p x (by simpa using hps) (by omega)
    have HF : Flip s.data.toList p x (s.data.toList.set p y) := by rw [hy]; exact hflip
    clear hcell hfr hflip hxn hq256 hxpos hx hy
    go_wp2_with fail
    have z1 : (s.extract 0 (p + 1)).size ≤ 100000 := by simp; omega
    have z2 : (⟨(s.data.toList.set p y).toArray⟩ : ByteArray).size ≤ 100000 := by
      show (s.data.toList.set p y).toArray.size ≤ 100000
      simp; exact Nat.le_trans h2 (by decide)
    have z3 : ((⟨(s.data.toList.set p y).toArray⟩ : ByteArray).extract 0 (p + 1)).size ≤ 100000 := by simp; omega
    have n1 : ¬ ((csum (s.data.toList.set p y) : Nat) : Int) = (csum s.data.toList : Nat) := by have := HF.all; omega
    have n2 : ¬ ((csum (List.take (p + 1) s.data.toList) : Nat) : Int) = (csum (List.take (p + 1) (s.data.toList.set p y)) : Nat) := by have := HF.head; omega
    go_wp2_with (go_at_call 18; refine (sum_any _ _ (by first | omega | assumption)).mono ?_; rintro e w' ⟨rfl, rfl⟩)
    refine (sumJoin_nil _ _ (s.size - (p + 1)) _ (csum_lt _) (by omega) (by omega)).mono ?_
    rintro e w2 ⟨rfl, hb2⟩
    go_wp2_with fail
    refine (sumJoin_nil _ _ (s.size - (p + 1)) _ (csum_lt _) (by omega) (by omega)).mono ?_
    rintro e w3 ⟨rfl, hb3⟩
    have hlast : (bits .xor .u32 (citer (8 * (s.size - (p + 1))) (csum (List.take (p + 1) s.data.toList)) : Int) (citer (8 * (s.size - (p + 1))) (csum (List.take (p + 1) (s.data.toList.set p y))) : Int) == bits .xor .u32 (csum s.data.toList : Int) (csum (s.data.toList.set p y) : Int)) = true := by
      rw [u32_xor_nat _ _ (citer_lt _ (csum_lt _)) (citer_lt _ (csum_lt _)), u32_xor_nat _ _ (csum_lt _) (csum_lt _)]
      have := HF.rest
      rw [show s.data.toList.length = s.size by simp] at this
      rw [this]; simp
    go_wp2_with (go_at_call 18; refine (sum_any _ _ (by first | omega | assumption)).mono ?_; rintro e w' ⟨rfl, rfl⟩)
    go_ret
    refine ⟨ret_bool ?_, ?_⟩
    · have f1 : ((csum (s.data.toList.set p y) : Int) != (csum s.data.toList : Int)) = true := by rw [bne_iff_ne]; exact n1
      have f2 : ((csum (List.take (p + 1) s.data.toList) : Int) != (csum (List.take (p + 1) (s.data.toList.set p y)) : Int)) = true := by rw [bne_iff_ne]; exact n2
      exact Bool.and_eq_true_iff.2 ⟨f1, f2⟩
    · exact below_trans' (below_trans' (below_trans' hb1 ((((Below.refl _ _).alloc (Nat.le_refl _) _).setCell (Nat.le_refl _) _).drew)) hb2) hb3
  · have h' : s.size < 1 ∨ 300 < s.size ∨ at_ < 0 ∨ 8 * (s.size : Int) ≤ at_ := by omega
    clear h
    go_enter Try.func8, Try.ntmps8
    go_wp2_with fail
    refine (summed_any _).mono ?_
    rintro e w1 ⟨rfl, hb1⟩
    go_wp2_with fail
    all_goals first | (go_ret; exact ⟨rfl, hb1⟩) | (exfalso; omega)
end Go.Proofs.Ytmpikgkaoafclaa
