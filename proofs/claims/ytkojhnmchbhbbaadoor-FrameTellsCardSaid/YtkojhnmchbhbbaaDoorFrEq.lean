/- Two frames are compared: by their fields. -/
import Derived.Test.YtkojhnmchbhbbaaDoorFramePlain
import Derived.Laws.StructEq
namespace Go.Proofs.YtkojhnmchbhbbaaDoor
open Go.RowKit
set_option linter.unusedVariables false

theorem fr_eq (k k' : UInt8) (e q e' q' : Int) (d d' : ByteArray) (w : World) : (Op.equalIn 10000 50 (.agg #[.int .u8 k.toNat, .int .i64 e, .int .i64 q, .string d]) (.agg #[.int .u8 k'.toNat, .int .i64 e', .int .i64 q', .string d'])).run Tryd.prog w =
    if k = k' ∧ e = e' ∧ q = q' ∧ d.toList = d'.toList then .ok true w else .ok false w := by
  have u3 := Tryd.underlying3
  have u5 := Tryd.underlying5
  have u9 := Tryd.underlying9
  have hS : Tryd.prog.underlying 50 = some (.struct (Tryd.prog.fieldsOf 50)) := by kernel_rfl
  rw [show (10000 : Nat) = 9999 + 1 from rfl, run_equalIn_agg w 9999 50 _ _ hS (by kernel_rfl)]
  simp only [Program.fieldsOf, Tryd.underlying50]
  go_simp
  have hk : ((k.toNat : Int) = (k'.toNat : Int)) ↔ k = k' := by rw [← UInt8.toNat_inj]; omega
  simp only [hk]
  by_cases h1 : k = k' <;> by_cases h2 : e = e' <;> by_cases h3 : q = q' <;> by_cases h4 : d.toList = d'.toList <;> simp [h1, h2, h3, h4]
theorem bs_tl (l : List UInt8) : (bs l).toList = l := by rw [ByteArray.toList_eq, bs_list]
theorem fr_same (f : PFr) (w : World) : (Op.equalIn 10000 50 (.agg #[.int .u8 f.k.toNat, .int .i64 f.e, .int .i64 f.q, .string (bs f.d)]) (.agg #[.int .u8 f.k.toNat, .int .i64 f.e, .int .i64 f.q, .string (bs f.d)])).run Tryd.prog w = .ok true w := by
  rw [fr_eq, if_pos ⟨rfl, rfl, rfl, rfl⟩]
theorem fr_other {f g : PFr} (h : f ≠ g) (w : World) : (Op.equalIn 10000 50 (.agg #[.int .u8 f.k.toNat, .int .i64 f.e, .int .i64 f.q, .string (bs f.d)]) (.agg #[.int .u8 g.k.toNat, .int .i64 g.e, .int .i64 g.q, .string (bs g.d)])).run Tryd.prog w = .ok false w := by
  rw [fr_eq, if_neg]
  rintro ⟨h1, h2, h3, h4⟩
  rw [bs_tl, bs_tl] at h4
  exact h (by cases f; cases g; simp_all)
theorem fr_zero (w : World) : (Op.equalIn 10000 50 (.agg #[.int .u8 0, .int .i64 0, .int .i64 0, .string ⟨#[]⟩]) (.agg #[.int .u8 0, .int .i64 0, .int .i64 0, .string ⟨#[]⟩])).run Tryd.prog w = .ok true w := by
  have h := fr_eq 0 0 0 0 0 0 ⟨#[]⟩ ⟨#[]⟩ w
  rw [if_pos ⟨rfl, rfl, rfl, rfl⟩] at h
  have e : (((0 : UInt8).toNat : Nat) : Int) = 0 := rfl
  rw [e] at h
  exact h
theorem zfr_k : ((zfr.k.toNat : Nat) : Int) = 0 := by unfold zfr; rfl
theorem zfr_e : zfr.e = 0 := by unfold zfr; rfl
theorem zfr_q : zfr.q = 0 := by unfold zfr; rfl
theorem zfr_d : bs zfr.d = ⟨#[]⟩ := by unfold zfr; rw [bs_nil]
end Go.Proofs.YtkojhnmchbhbbaaDoor
