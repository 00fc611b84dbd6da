/- Writers with no error: what is written. -/
import Derived.Test.YtapdfgnfblkncaaGreatDoorNumRW
import Derived.Test.YtapdfgnfblkncaaGreatDoorFault
namespace Go.Proofs.YtapdfgnfblkncaaGreatDoor
open Go.RowKit

theorem wnum_ok (E : Nat → Addr) (b : Nat) (l : List UInt8) (n : Int) (w : World) (hl : l.length ≤ 1000000000) (h : WAt E w b l 0) (hB : Has E w 2) (hn : 0 ≤ n) (hn2 : n ≤ 1099511627776) :
    Calls Tryz.prog 24 #[.pointer (some ⟨b, 0, none⟩), .int .i64 n] w fun e w' => e = .returned (.tuple #[]) ∧ WAt E w' b (l ++ num n.toNat) 0 ∧ KeepW b w w' := by
  have := wnum_any E b l 0 n w hl h hB
  rw [(putC_yes ⟨hn, hn2⟩).1, (putC_yes ⟨hn, hn2⟩).2, fstErr_zero] at this
  exact this
theorem wtext_ok (E : Nat → Addr) (b : Nat) (l : List UInt8) (s : ByteArray) (w : World) (hl : l.length ≤ 1000000000) (h : WAt E w b l 0) (hB : Has E w 2) (hs : s.size ≤ 20000) :
    Calls Tryz.prog 25 #[.pointer (some ⟨b, 0, none⟩), .string s] w fun e w' => e = .returned (.tuple #[]) ∧ WAt E w' b (l ++ (num s.size ++ s.data.toList)) 0 ∧ KeepW b w w' := by
  have := wtext_any E b l 0 s w (by omega) hl h hB
  have e : s.data.toList.length = s.size := by simp
  rw [(ptC_yes (by omega)).1, (ptC_yes (by omega)).2, fstErr_zero, e] at this
  exact this
theorem KeepW.obj {b g : Nat} {w w' : World} {cs : Array Value} {t : TypeId} {fr : Nat × Nat} (h : KeepW b w w') (hg : w.heap[g]? = some (.cells cs t fr)) (hne : g ≠ b) (ht : t ≠ 5) : w'.heap[g]? = some (.cells cs t fr) :=
  (h.block g (lt_of_block hg) hne (.inr (fun cur e => by rw [hg] at e; injection e with e; injection e with _ e _; exact ht e))).trans hg
theorem WAt.lt {E : Nat → Addr} {w : World} {b : Nat} {l : List UInt8} {c : Nat} (h : WAt E w b l c) : b < w.heap.size := by obtain ⟨v, h1, _⟩ := h; exact lt_of_block h1
theorem WAt.below {E : Nat → Addr} {w w' : World} {b : Nat} {l : List UInt8} {c : Nat} (h : WAt E w b l c) (hb : Below w.heap.size w w') : WAt E w' b l c := by
  obtain ⟨v, h⟩ := h
  exact ⟨v, WRaw.below (x := ev E c) h hb⟩
theorem WAt.new (E : Nat → Addr) (w : World) : WAt E (w.alloc (.cells #[.slice none 0 0, .nilIface] 70)) w.heap.size [] 0 :=
  ⟨.slice none 0 0, by rw [ev_zero]; exact heap_alloc_new _ _, World.ownsRow_nil _ _ _ _⟩
theorem below_alloc' (w : World) (o : Obj) : Below w.heap.size w (w.alloc o) := (Below.refl _ w).alloc (Nat.le_refl _) o

end Go.Proofs.YtapdfgnfblkncaaGreatDoor
/- Readers: what is alike for all. -/
namespace Go.Proofs.YtapdfgnfblkncaaGreatDoor
open Go.RowKit

theorem getA_short (k : Nat) : ∀ i acc l, (getA k i acc l).2.2 = 0 → (getA k i acc l).2.1.length < l.length := by
  induction k with
  | zero => intro i acc l h; simp [getA_end] at h
  | succ k ih =>
    intro i acc l h
    cases l with
    | nil => simp [getA_nil] at h
    | cons c l =>
      by_cases h1 : 128 ≤ c.toNat
      · rw [getA_more h1] at h ⊢
        have := ih _ _ _ h
        simp only [List.length_cons]; omega
      · by_cases h2 : c.toNat = 0 ∧ 0 < i
        · rw [getA_zero h2.1 h2.2] at h; simp at h
        · by_cases h3 : 1099511627776 < acc + c.toNat % 128 * 128 ^ i
          · rw [getA_over (by omega) h2 h3] at h; simp at h
          · rw [getA_done (by omega) h2 h3]; simp
theorem gR_short (l : List UInt8) (h : gC l = 0) : (gR l).length < l.length := by
  unfold gR gC getL at *; exact getA_short 6 0 0 l h

theorem rnC_zero {l : List UInt8} {c : Nat} (h : rnC l c = 0) : c = 0 ∧ gC l = 0 := by
  by_cases hc : c = 0
  · subst hc; rw [(rn_zero l).2.2] at h; exact ⟨rfl, h⟩
  · rw [(rn_err l hc).2.2] at h; exact absurd h hc
theorem rtC_zero {l : List UInt8} {c : Nat} (h : rtC l c = 0) : c = 0 ∧ tC l = 0 := by
  by_cases hc : c = 0
  · subst hc; rw [(rt_zero l).2.2] at h; exact ⟨rfl, h⟩
  · rw [(rt_err l hc).2.2] at h; exact absurd h hc
theorem owns_mono {w : World} {base base' : Nat} {e : TypeId} {size : Nat} {v : Value} {n : Nat} {xs : List Value} (h : w.ownsRow base e size v n xs) (hb : base' ≤ base) : w.ownsRow base' e size v n xs := by
  obtain ⟨h1, h2⟩ := h
  refine ⟨h1, ?_⟩
  rcases h2 with h2 | ⟨g, cap, cur, hv, hg, r⟩
  · exact .inl h2
  · exact .inr ⟨g, cap, cur, hv, by omega, r⟩
theorem owns_other' {w w' : World} {base b : Nat} {e : TypeId} {size : Nat} {v : Value} {n : Nat} {xs : List Value} (h : w.ownsRow base e size v n xs) (hb : b < base) (hg : w.grownBy w' (some b)) : w'.ownsRow base e size v n xs :=
  h.kept hg (by
    rcases hx : v.ownBlock with _ | j
    · exact .inl rfl
    · exact .inr (by have := h.lt j hx; simp; omega))

theorem cell_kept {w w' : World} {a : Addr} {v : Value} (h : w.cell? a = some v) (hb : Below w.heap.size w w') : w'.cell? a = some v := (hb.cell (World.block_lt_of_cell? w _ h)).trans h
theorem rd_num (n : Nat) (more : List UInt8) (h : n ≤ 1099511627776) : rnN (num n ++ more) 0 = n ∧ rnR (num n ++ more) 0 = more ∧ rnC (num n ++ more) 0 = 0 := by
  rw [(rn_zero _).1, (rn_zero _).2.1, (rn_zero _).2.2]
  exact ⟨gN_num n more h, gR_num n more h, gC_num n more h⟩
end Go.Proofs.YtapdfgnfblkncaaGreatDoor
