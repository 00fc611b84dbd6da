/- A slice literal as a slice. -/
import Derived.Test.YtmpikgkaoafclaaDoorArgs
namespace Go.Proofs.YtmpikgkaoafclaaDoor
open Go.RowKit
theorem lit_slice {w : World} {b n : Nat} {cs : Array Value} {t : TypeId} {vals : List Value} (k : Nat) (h : w.heap[b]? = some (.cells cs t (0, 0))) (hc : cs.toList = vals) (hn : vals.length = n * k) (hm : n ≤ 1000000) : SliceIs w (.slice (some ⟨b, 0, none⟩) n n) k vals := by
  refine .inr ⟨⟨b, 0, none⟩, n, n, rfl, Nat.le_refl _, by unfold maxLen; omega, hn, fun i u hu => ?_⟩
  subst hc
  have : w.cell? ⟨b, i, none⟩ = some u := by simp only [World.cell?, h]; simpa using hu
  have e : (⟨b, 0, none⟩ : Addr).add i = ⟨b, i, none⟩ := by simp [Addr.add]; omega
  rw [e]; exact this
end Go.Proofs.YtmpikgkaoafclaaDoor
