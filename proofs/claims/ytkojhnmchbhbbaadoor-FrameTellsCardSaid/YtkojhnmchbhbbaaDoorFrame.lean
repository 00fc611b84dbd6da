/- Contracts of package frame: Check, low, Encode. -/
import Derived.Test.YtkojhnmchbhbbaaDoorFramePlain
import Derived.Test.YtkojhnmchbhbbaaDoorWriter
import Derived.Test.YtkojhnmchbhbbaaDoorArgFr
import Derived.Test.YtkojhnmchbhbbaaDoorSum
namespace Go.Proofs.YtkojhnmchbhbbaaDoor
open Go.RowKit
set_option linter.unusedVariables false

set_option maxRecDepth 100000 in
set_option maxHeartbeats 1600000 in
theorem fcheck_any (E : Nat → Addr) (f : PFr) (w : World) (h2 : Has E w 2) (h4 : Has E w 4) : Calls Tryd.prog 32 #[f.val] w fun e w' => e = .returned (ev E (frC f)) ∧ Below w.heap.size w w' := by
  have z2 : 0 < w.heap.size := World.block_lt_of_cell? w _ h2
  have z4 : 4 < w.heap.size := World.block_lt_of_cell? w _ h4
  have c2 : w.cell? ⟨0, 0, none⟩ = some (errv (E 2)) := h2
  have c4 : w.cell? ⟨4, 0, none⟩ = some (errv (E 4)) := h4
  have HA := Lib.hid (fun o => below_alloc' w o)
  have V0 := Lib.hid (ev_zero E)
  have V2 := Lib.hid (ev_is E (c := 2) (by decide))
  have V4 := Lib.hid (ev_is E (c := 4) (by decide))
  have K := Lib.hid (frC_kind (f := f))
  have F := Lib.hid (frC_fine (f := f))
  have B := Lib.hid (frC_bound (f := f))
  rw [PFr.val_is]
  obtain ⟨k, e, q, d⟩ := f
  simp only [] at K F B ⊢
  have hk := k.toNat_lt
  clear h2 h4
  rcases (show ((k.toNat : Int) < 97 ∨ ¬ (k.toNat : Int) < 97 ∧ (122 : Int) < k.toNat) ∨ (¬ (k.toNat : Int) < 97 ∧ ¬ (122 : Int) < k.toNat) by omega) with (h | ⟨h, h'⟩) | ⟨h, h'⟩
  · have HC := Lib.hid (K.out (by omega))
    clear K F B
    go_enter Tryd.func32, Tryd.ntmps32
    go_wp2_with fail
    go_ret
    exact ⟨by rw [HC.out, V4.out]; rfl, HA.out _⟩
  · have HC := Lib.hid (K.out (by omega))
    clear K F B
    go_enter Tryd.func32, Tryd.ntmps32
    go_wp2_with fail
    go_ret
    exact ⟨by rw [HC.out, V4.out]; rfl, HA.out _⟩
  · by_cases hf : (0 ≤ e ∧ e ≤ 2147483648) ∧ (0 ≤ q ∧ q < 65536) ∧ d.length ≤ 20000
    · have HC := Lib.hid (F.out (by omega) hf)
      obtain ⟨⟨f1, f2⟩, ⟨f3, f4⟩, f5⟩ := hf
      have f6 : ¬ (20000 : Int) < d.length := by omega
      clear K F B
      go_enter Tryd.func32, Tryd.ntmps32
      go_wp2_with fail
      go_ret
      exact ⟨by rw [HC.out, V0.out]; rfl, HA.out _⟩
    · have HC := Lib.hid (B.out (by omega) hf)
      clear K F B
      rcases (show e < 0 ∨ ¬ e < 0 ∧ 2147483648 < e ∨ (¬ e < 0 ∧ ¬ 2147483648 < e) ∧ q < 0 ∨ (¬ e < 0 ∧ ¬ 2147483648 < e) ∧ ¬ q < 0 ∧ 65536 ≤ q ∨ (¬ e < 0 ∧ ¬ 2147483648 < e) ∧ (¬ q < 0 ∧ ¬ 65536 ≤ q) ∧ (20000 : Int) < d.length by omega) with g | ⟨g, g1⟩ | ⟨⟨g, g1⟩, g2⟩ | ⟨⟨g, g1⟩, g2, g3⟩ | ⟨⟨g, g1⟩, ⟨g2, g3⟩, g4⟩
      all_goals
        clear hf
        go_enter Tryd.func32, Tryd.ntmps32
        go_wp2_with fail
        go_ret
        exact ⟨by rw [HC.out, V2.out]; rfl, HA.out _⟩

theorem conv_four {P : Program} (w : World) (S D E : TypeId) (hs : P.underlying S = some (.slice E)) (he : P.underlying E = some (.int .u8)) (hd : P.underlying D = some .string)
    (b cap : Nat) (c0 c1 c2 c3 : UInt8) (h0 : w.cell? ⟨b, 0, none⟩ = some (.int .u8 c0.toNat)) (h1 : w.cell? ⟨b, 1, none⟩ = some (.int .u8 c1.toNat)) (h2 : w.cell? ⟨b, 2, none⟩ = some (.int .u8 c2.toNat)) (h3 : w.cell? ⟨b, 3, none⟩ = some (.int .u8 c3.toNat)) :
    (convert S D (.slice (some ⟨b, 0, none⟩) 4 cap)).run P w = .ok (.string ⟨#[c0, c1, c2, c3]⟩) w :=
  run_convert_bytes_back w S D E ⟨b, 0, none⟩ cap [c0, c1, c2, c3] hs he hd (fun j hj => by
    match j, hj with
    | 0, _ => simpa [Addr.add] using h0
    | 1, _ => simpa [Addr.add] using h1
    | 2, _ => simpa [Addr.add] using h2
    | 3, _ => simpa [Addr.add] using h3)
set_option maxRecDepth 100000 in
set_option maxHeartbeats 1600000 in
theorem low_any (v : Nat) (w : World) (hv : v < 4294967296) : Calls Tryd.prog 44 #[.int .u32 v] w fun e w' => e = .returned (.string (bs (lowL v))) ∧ Below w.heap.size w w' := by
  have HLW := Lib.hid (show bs (lowL v) = ⟨#[UInt8.ofNat (v % 256), UInt8.ofNat (v / 256 % 256), UInt8.ofNat (v / 65536 % 256), UInt8.ofNat (v / 16777216 % 256)]⟩ by unfold bs lowL; rfl)
  have m0 := byte_ofNat (v % 256) (by omega)
  have m1 := byte_ofNat (v / 256 % 256) (by omega)
  have m2 := byte_ofNat (v / 65536 % 256) (by omega)
  have m3 := byte_ofNat (v / 16777216 % 256) (by omega)
  have CV := fun (w' : World) (b : Nat) h0 h1 h2 h3 => conv_four (P := Tryd.prog) w' 78 9 5 Tryd.underlying78 Tryd.underlying5 Tryd.underlying9 b 4 (UInt8.ofNat (v % 256)) (UInt8.ofNat (v / 256 % 256)) (UInt8.ofNat (v / 65536 % 256)) (UInt8.ofNat (v / 16777216 % 256)) h0 h1 h2 h3
  rw [m0, m1, m2, m3] at CV
  have HCV := Lib.hid CV
  clear CV m0 m1 m2 m3
  have hcv := HCV.out (w.alloc (.cells #[.int .u8 ((v : Int) % 256), .int .u8 ((v : Int) / 256 % 256), .int .u8 ((v : Int) / 65536 % 256), .int .u8 ((v : Int) / 16777216)] 5)) w.heap.size (by simp) (by simp) (by simp) (by simp; omega)
  go_enter Tryd.func44, Tryd.ntmps44
  go_wp2_with fail
  go_ret
  exact ⟨by rw [HLW.out]; rfl, below_alloc' _ _⟩
end Go.Proofs.YtkojhnmchbhbbaaDoor
