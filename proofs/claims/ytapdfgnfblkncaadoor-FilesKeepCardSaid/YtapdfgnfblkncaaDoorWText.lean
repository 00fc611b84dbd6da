/- Writers with no error: what is written. -/
import Derived.Test.YtapdfgnfblkncaaDoorNumRW
import Derived.Test.YtapdfgnfblkncaaDoorFault
namespace Go.Proofs.YtapdfgnfblkncaaDoor
open Go.RowKit

theorem wnum_ok (E : Nat → Addr) (b : Nat) (l : List UInt8) (n : Int) (w : World) (hl : l.length ≤ 1000000000) (h : WAt E w b l 0) (hB : Has E w 2) (hn : 0 ≤ n) (hn2 : n ≤ 1099511627776) :
    Calls Tryd.prog 65 #[.pointer (some ⟨b, 0, none⟩), .int .i64 n] w fun e w' => e = .returned (.tuple #[]) ∧ WAt E w' b (l ++ num n.toNat) 0 ∧ KeepW b w w' := by
  have := wnum_any E b l 0 n w hl h hB
  rw [(putC_yes ⟨hn, hn2⟩).1, (putC_yes ⟨hn, hn2⟩).2, fstErr_zero] at this
  exact this
theorem wtext_ok (E : Nat → Addr) (b : Nat) (l : List UInt8) (s : ByteArray) (w : World) (hl : l.length ≤ 1000000000) (h : WAt E w b l 0) (hB : Has E w 2) (hs : s.size ≤ 20000) :
    Calls Tryd.prog 66 #[.pointer (some ⟨b, 0, none⟩), .string s] w fun e w' => e = .returned (.tuple #[]) ∧ WAt E w' b (l ++ (num s.size ++ s.data.toList)) 0 ∧ KeepW b w w' := by
  have := wtext_any E b l 0 s w (by omega) hl h hB
  have e : s.data.toList.length = s.size := by simp
  rw [(ptC_yes (by omega)).1, (ptC_yes (by omega)).2, fstErr_zero, e] at this
  exact this
theorem KeepW.obj {b g : Nat} {w w' : World} {cs : Array Value} {t : TypeId} {fr : Nat × Nat} (h : KeepW b w w') (hg : w.heap[g]? = some (.cells cs t fr)) (hne : g ≠ b) (ht : t ≠ 5) : w'.heap[g]? = some (.cells cs t fr) :=
  (h.block g (lt_of_block hg) hne (.inr (fun cur e => by rw [hg] at e; injection e with e; injection e with _ e _; exact ht e))).trans hg
theorem WAt.lt {E : Nat → Addr} {w : World} {b : Nat} {l : List UInt8} {c : Nat} (h : WAt E w b l c) : b < w.heap.size := by obtain ⟨v, h1, _⟩ := h; exact lt_of_block h1
theorem WAt.below {E : Nat → Addr} {w w' : World} {b : Nat} {l : List UInt8} {c : Nat} (h : WAt E w b l c) (hb : Below w.heap.size w w') : WAt E w' b l c := by
  obtain ⟨v, h⟩ := h
  exact ⟨v, WRaw.below (x := ev E c) h hb⟩
theorem WAt.new (E : Nat → Addr) (w : World) : WAt E (w.alloc (.cells #[.slice none 0 0, .nilIface] 121)) w.heap.size [] 0 :=
  ⟨.slice none 0 0, by rw [ev_zero]; exact heap_alloc_new _ _, World.ownsRow_nil _ _ _ _⟩
theorem below_alloc' (w : World) (o : Obj) : Below w.heap.size w (w.alloc o) := (Below.refl _ w).alloc (Nat.le_refl _) o

end Go.Proofs.YtapdfgnfblkncaaDoor
