/- Texts of one proof, one behind the other: Err. -/
import Derived.Test.YtdpoalbbcmkceaaGreatDoorRows
import Derived.Test.YtdpoalbbcmkceaaGreatDoorB02
import Derived.Test.YtdpoalbbcmkceaaGreatDoorB01
/- The package-level errors as a walk meets them: each variable's cell holds a pointer to an errors.errorString. -/
namespace Go.Proofs.YtdpoalbbcmkceaaGreatDoor
open Go.RowKit

def errv (a : Addr) : Value := .iface 237 (.pointer (some a))
/-- an error by its number (0: nil), where E tells each sentinel's place -/
def ev (E : Nat → Addr) (c : Nat) : Value := if c = 0 then .nilIface else errv (E c)
theorem ev_zero (E : Nat → Addr) : ev E 0 = .nilIface := rfl
theorem ev_pos (E : Nat → Addr) {c : Nat} (h : c ≠ 0) : ev E c = .iface 237 (.pointer (some (E c))) := by simp [ev, h, errv]
theorem ev_is (E : Nat → Addr) {c : Nat} (h : c ≠ 0) : ev E c = errv (E c) := by simp [ev, h]
/-- the variable of each number -/
def gOf : Nat → Nat
  | 1 => 0
  | 2 => 1
  | 3 => 2
  | 4 => 3
  | 5 => 4
  | 6 => 5
  | 7 => 6
  | 8 => 7
  | 9 => 8
  | 10 => 9
  | 11 => 10
  | 12 => 11
  | 13 => 999
  | 14 => 999
  | _ => 999
/-- the variable of error c holds its pointer -/
def Has (E : Nat → Addr) (w : World) (c : Nat) : Prop := w.cell? ⟨gOf c, 0, none⟩ = some (errv (E c))
theorem Has.below {E : Nat → Addr} {w w' : World} {c : Nat} (h : Has E w c) (hb : Below w.heap.size w w') : Has E w' c :=
  (hb.cell (p := ⟨gOf c, 0, none⟩) (World.block_lt_of_cell? w _ h)).trans h
theorem Has.drewN {E : Nat → Addr} {w : World} {c : Nat} (h : Has E w c) (n : Nat) : Has E (w.drewN n) c := h
theorem Has.drew {E : Nat → Addr} {w : World} {c : Nat} (h : Has E w c) : Has E w.drew c := h
theorem Has.alloc {E : Nat → Addr} {w : World} {c : Nat} (h : Has E w c) (o : Obj) : Has E (w.alloc o) c := h.below ((Below.refl _ w).alloc (Nat.le_refl _) o)
/-- a byte's cell -/
def bv (c : UInt8) : Value := .int .u8 c.toNat
theorem bv_one (l : List UInt8) : ∀ u ∈ l.map bv, u.oneCell' = true := by
  intro u hu; obtain ⟨c, _, rfl⟩ := List.mem_map.1 hu; rfl
/-- a row of bytes of the call's own, as a text -/
theorem conv_owned {P : Program} {w : World} {base : Nat} {E T D : TypeId} {g cap n : Nat} {l : List UInt8} (h : w.ownsRow base E 1 (.slice (some ⟨g, 0, none⟩) n cap) n (l.map bv))
    (hs : P.underlying T = some (.slice E)) (he : P.underlying E = some (.int .u8)) (hd : P.underlying D = some .string) :
    (convert T D (.slice (some ⟨g, 0, none⟩) n cap)).run P w = .ok (.string (bs l)) w := by
  have hl : l.length = n := by have := h.1; simpa using this
  have hc := h.cells (g := g) rfl
  have := run_convert_bytes_back (P := P) w T D E ⟨g, 0, none⟩ cap l hs he hd (fun j hj => by
    have := hc j (bv l[j]) (by simp [hj])
    simpa [bv] using this)
  rw [hl] at this
  rw [this]
  congr 2
  exact eq_bs (by simp)
attribute [irreducible] ev errv
end Go.Proofs.YtdpoalbbcmkceaaGreatDoor
