/- Texts of one proof, one behind the other: FilFind, FilStep, FilIns. -/
import Derived.Test.YtppkeophochgiaaGreatDoorB12
import Derived.Test.YtppkeophochgiaaGreatDoorB08
import Derived.Test.YtppkeophochgiaaGreatDoorB10
import Derived.Laws.StructEq
import Derived.Test.YtppkeophochgiaaGreatDoorB13
/- files.find: the place of a name, by halves. -/
namespace Go.Proofs.YtppkeophochgiaaGreatDoor
open Go.RowKit
set_option linter.unusedVariables false

theorem find_isSome {l : List PF} {n : List UInt8} (hs : l.Pairwise fun a b => ltL a.n b.n = true) {a : Nat} (ha : a < l.length) (h1 : ltL l[a].n n = false) (h2 : ∀ k (h : k < l.length), k < a → ltL l[k].n n = true) : (fgetL l n).isSome = (l[a].n == n) := by
  cases hg : fgetL l n with
  | some d =>
    have hm := fgetL_some hg
    obtain ⟨j, hj, hje⟩ := List.getElem_of_mem hm
    have hjn : l[j].n = n := by rw [hje]
    have : a = j := by
      rcases Nat.lt_trichotomy a j with h | h | h
      · have h3 := List.pairwise_iff_getElem.1 hs a j ha hj h
        rw [hjn, h1] at h3; cases h3
      · exact h
      · have := h2 j hj h
        rw [hjn, ltL_irrefl] at this; cases this
    subst this
    simp [hjn]
  | none =>
    have := fgetL_none hg l[a] (List.getElem_mem _)
    simp [this]
theorem find_isNone {l : List PF} {n : List UInt8} (hs : l.Pairwise fun a b => ltL a.n b.n = true) {a : Nat} (ha : l.length ≤ a) (h2 : ∀ k (h : k < l.length), k < a → ltL l[k].n n = true) : (fgetL l n).isSome = false := by
  cases hg : fgetL l n with
  | none => rfl
  | some d =>
    obtain ⟨j, hj, hje⟩ := List.getElem_of_mem (fgetL_some hg)
    have h3 := h2 j hj (by omega)
    rw [hje, ltL_irrefl] at h3; cases h3
theorem enterFind : ∀ args w, (callFunc 135 args).run Tryz.prog w = .ok (.enter 135 args) w := enters_of Tryz.func135 (by kernel_rfl) rfl
set_option maxRecDepth 100000 in
set_option maxHeartbeats 1600000 in
theorem find1_any (f : PF) (n : List UInt8) (w : World) :
    Calls Tryz.prog 135 #[.agg #[.string (bs f.n), .string (bs f.d)], .string (bs n)] w fun e w' => e = .returned (.int .i64 (Lib.compareBytes f.n n)) ∧ Below w.heap.size w w' := by
  have HB := Lib.hid (wb_alloc w (.cells #[.string (bs f.n), .string (bs f.d)] 130))
  have CM := Lib.hid (fun w' => Tryz.strings_Compare (bs f.n) (bs n) w')
  simp only [bs_list] at CM
  go_enter Tryz.func135, Tryz.ntmps135
  go_wp2_with fail
  refine (CM.out _).mono ?_
  rintro e w1 ⟨rfl, rfl⟩
  go_wp2_with fail
  go_ret
  exact ⟨rfl, HB.out⟩
set_option maxRecDepth 100000 in
set_option maxHeartbeats 6400000 in
theorem bsf_any (l : List PF) (v : Value) (n : List UInt8) (w : World) (hl : SliceIs w v 2 (fcells l)) (hs : l.Pairwise fun a b => ltL a.n b.n = true) (hlen : l.length ≤ 1000000) :
    Calls Tryz.prog 134 #[v, .string (bs n), .func (.func 135) #[] #[]] w fun e w' => e = .returned (.tuple #[.int .i64 (placeL l n), .bool (fgetL l n).isSome]) ∧ Below w.heap.size w w' := by
  obtain ⟨s, m, c, rfl, hn, h1, h2, hg⟩ := hl.get
  rw [fcells_len] at hn
  obtain rfl : m = l.length := by omega
  unfold maxLen at h2
  have HSL := Lib.hid hl
  have HS := Lib.hid hs
  have eg := enterFind
  clear hl hg hs
  go_enter Tryz.func134, Tryz.ntmps134
  go_wp2_with fail
  go_loopw [9, 10, 11] (fun i j _ wr => ∃ a b : Nat, i = .int .i64 a ∧ j = .int .i64 b ∧ a ≤ b ∧ b ≤ l.length ∧ (∀ k (h : k < l.length), k < a → ltL l[k].n n = true) ∧ (∀ k (h : k < l.length), b ≤ k → ltL l[k].n n = false) ∧ Below w.heap.size w wr) (fun i j _ _ => (intOf j).toNat - (intOf i).toNat)
  case atStart => exact ⟨0, l.length, rfl, rfl, by omega, by omega, fun k _ hk => by omega, fun k h hk => by omega, Below.refl _ _⟩
  case round =>
    obtain ⟨a, b, rfl, rfl, hab, hb, hlo, hhi, bel⟩ := hrel
    have HLO := Lib.hid hlo
    have HHI := Lib.hid hhi
    clear hlo hhi
    by_cases hlt : a < b
    · have hltI : (a : Int) < b := by omega
      obtain ⟨mid, hmid⟩ : ∃ q : Nat, q = (a + b) / 2 := ⟨_, rfl⟩
      have hm1 : a ≤ mid := by omega
      have hm2 : mid < b := by omega
      have hml : mid < l.length := by omega
      obtain ⟨s0', n0', c0', e1, _, _, _, g1⟩ := (HSL.out.below bel).get
      cases e1
      obtain ⟨g2, g3⟩ := fcells_get l mid hml
      obtain ⟨ad, rfl, d0⟩ := g1 _ _ g2
      obtain ⟨a', e', d1⟩ := g1 _ _ g3
      cases e'
      clear g1 g2 g3
      have CL := Lib.hid (find1_any l[mid] n wr)
      have hw : IntKind.i64.wrap ((a : Int) + b) = (a : Int) + b := IntWalk.i64_in _ (by omega)
      have hq : ((a : Int) + b) / 2 = (mid : Int) := by omega
      have d1 := cell_at d1
      have y1 : (0 : Int) ≤ mid := by omega
      have y2 : (mid : Int).toNat = mid := by omega
      have y3 : (mid : Int) < l.length := by omega
      have LOW := Lib.hid (fun (h : ltL l[mid].n n = true) => show ∀ k (h : k < l.length), k < mid + 1 → ltL l[k].n n = true from fun k hk hkm => by
        by_cases e : k = mid
        · subst e; exact h
        · have := List.pairwise_iff_getElem.1 HS.out k mid hk hml (by omega)
          exact ltL_trans this h)
      have HIG := Lib.hid (fun (h : ltL l[mid].n n = false) => show ∀ k (h : k < l.length), mid ≤ k → ltL l[k].n n = false from fun k hk hkm => by
        by_cases e : k = mid
        · subst e; exact h
        · have h2 := List.pairwise_iff_getElem.1 HS.out mid k hml hk (by omega)
          cases h3 : ltL l[k].n n with
          | false => rfl
          | true => rw [ltL_trans h2 h3] at h; cases h)
      generalize l[mid] = x at d0 d1 CL LOW HIG
      clear hmid
      by_cases hx : ltL x.n n = true
      · have hcI : Lib.compareBytes x.n n < 0 := (cmp_lt_iff _ _).2 hx
        generalize Lib.compareBytes x.n n = cc at *
        have L := Lib.hid (LOW.out hx)
        clear LOW HIG hx
        go_wp2_with fail
        refine CL.out.mono ?_
        rintro e w1 ⟨rfl, b1⟩
        go_wp2_with fail
        go_roundw
        case rel => exact ⟨mid + 1, b, by go_num, rfl, by omega, hb, L.out, HHI.out, below_trans' bel b1⟩
        case measure => simp [intOf]; omega
      · have hcI : ¬ Lib.compareBytes x.n n < 0 := fun h => hx ((cmp_lt_iff _ _).1 h)
        have hxf : ltL x.n n = false := by simpa using hx
        generalize Lib.compareBytes x.n n = cc at *
        have L := Lib.hid (HIG.out hxf)
        clear LOW HIG hx hxf
        go_wp2_with fail
        refine CL.out.mono ?_
        rintro e w1 ⟨rfl, b1⟩
        go_wp2_with fail
        go_roundw
        case rel => exact ⟨a, mid, rfl, rfl, hm1, by omega, HLO.out, L.out, below_trans' bel b1⟩
        case measure => simp [intOf]; omega
    · have hltI : ¬ (a : Int) < b := by omega
      obtain rfl : a = b := by omega
      have hpl := place_of HS.out hb HLO.out HHI.out
      have HPL := Lib.hid hpl
      by_cases hal : a < l.length
      · have halI : (a : Int) < l.length := by omega
        obtain ⟨s0', n0', c0', e1, _, _, _, g1⟩ := (HSL.out.below bel).get
        cases e1
        obtain ⟨g2, g3⟩ := fcells_get l a hal
        obtain ⟨ad, rfl, d0⟩ := g1 _ _ g2
        obtain ⟨a', e', d1⟩ := g1 _ _ g3
        cases e'
        clear g1 g2 g3
        have CL := Lib.hid (find1_any l[a] n wr)
        have d1 := cell_at d1
        have y1 : (0 : Int) ≤ a := by omega
        have y2 : (a : Int).toNat = a := by omega
        have GET := Lib.hid (find_isSome HS.out hal (HHI.out a hal (Nat.le_refl _)) HLO.out)
        generalize l[a] = x at d0 d1 CL GET
        have hbb : (Lib.compareBytes x.n n == 0) = (x.n == n) := by
          by_cases e : x.n = n
          · rw [e, cmp_eq]; simp
          · have := fun h => e ((cmp_eq_iff x.n n).1 h)
            rw [beq_eq_false_iff_ne.2 this, beq_eq_false_iff_ne.2 e]
        have HBB := Lib.hid hbb
        generalize Lib.compareBytes x.n n = cc at *
        clear hpl hbb
        go_wp2_with fail
        refine CL.out.mono ?_
        rintro e w1 ⟨rfl, b1⟩
        go_wp2_with fail
        go_ret2
        exact ⟨by rw [← HPL.out, GET.out, ← HBB.out]; rfl, below_trans' bel b1⟩
      · have halI : ¬ (a : Int) < l.length := by omega
        have halD : decide ((a : Int) < l.length) = false := by simpa using halI
        have GET := Lib.hid (find_isNone HS.out (by omega : l.length ≤ a) HLO.out)
        clear hpl
        go_wp2_with fail
        go_ret2
        exact ⟨by rw [← HPL.out, GET.out]; rfl, bel⟩
end Go.Proofs.YtppkeophochgiaaGreatDoor
/- Contract of files.step. -/
namespace Go.Proofs.YtppkeophochgiaaGreatDoor
open Go.RowKit
set_option linter.unusedVariables false

def PS.val (s : PS) : Value := .agg #[.string (bs s.k), .string (bs s.n)]
theorem PS.val_is (s : PS) : s.val = .agg #[.string (bs s.k), .string (bs s.n)] := rfl
attribute [irreducible] PS.val
theorem bs_kSend : bs kSend = ⟨#[115, 101, 110, 100]⟩ := by unfold bs kSend; rfl
theorem bs_kDrop : bs kDrop = ⟨#[100, 114, 111, 112]⟩ := by unfold bs kDrop; rfl
theorem bs_kKeep : bs kKeep = ⟨#[107, 101, 101, 112]⟩ := by unfold bs kKeep; rfl
theorem step_nil (y : PL) (t : List PL) : stepL [] (y :: t) = (⟨kDrop, y.n⟩, 0, 1) := rfl
theorem step_one (x : PL) (a : List PL) : stepL (x :: a) [] = (⟨kSend, x.n⟩, 1, 0) := rfl
theorem step_lt {x y : PL} {a t : List PL} (h : ltL x.n y.n = true) : stepL (x :: a) (y :: t) = (⟨kSend, x.n⟩, 1, 0) := by simp only [stepL]; rw [if_pos h]
theorem step_gt {x y : PL} {a t : List PL} (h : ltL y.n x.n = true) : stepL (x :: a) (y :: t) = (⟨kDrop, y.n⟩, 0, 1) := by simp only [stepL]; rw [if_neg (by rw [ltL_asymm h]; simp), if_pos h]
theorem step_same {x y : PL} {a t : List PL} (h : x = y) : stepL (x :: a) (y :: t) = (⟨kKeep, x.n⟩, 1, 1) := by subst h; simp only [stepL]; rw [if_neg (by simp [ltL_irrefl]), if_neg (by simp [ltL_irrefl])]; simp
theorem step_new {x y : PL} {a t : List PL} (h : x ≠ y) (hn : x.n = y.n) : stepL (x :: a) (y :: t) = (⟨kSend, x.n⟩, 1, 1) := by simp only [stepL]; rw [if_neg (by rw [hn, ltL_irrefl]; simp), if_neg (by rw [hn, ltL_irrefl]; simp), if_neg h]
theorem lcells_head {w : World} {v : Value} {x : PL} {l : List PL} (h : SliceIs w v 3 (lcells (x :: l))) :
    ∃ a n c, v = .slice (some a) n c ∧ n = l.length + 1 ∧ n ≤ c ∧ c ≤ maxLen ∧ w.cell? a = some (.string (bs x.n)) ∧ w.cell? (a.add 1) = some (.int .i64 x.N) ∧ w.cell? (a.add 2) = some (.int .u32 x.S) := by
  obtain ⟨s, n, c, rfl, hn, h1, h2, hg⟩ := h.get
  rw [lcells_len, List.length_cons] at hn
  obtain ⟨g0, g1, g2⟩ := lcells_get (x :: l) 0 (by simp)
  obtain ⟨a, rfl, d0⟩ := hg _ _ g0
  obtain ⟨a', e, d1⟩ := hg _ _ g1
  cases e
  obtain ⟨a', e, d2⟩ := hg _ _ g2
  cases e
  have e0 : a.add 0 = a := by cases a; rfl
  rw [Nat.zero_mul, e0] at d0
  exact ⟨a, n, c, rfl, by omega, h1, h2, d0, by simpa using d1, by simpa using d2⟩
theorem lcells_none {w : World} {v : Value} (h : SliceIs w v 3 (lcells [])) : ∃ s c, v = .slice s 0 c ∧ c ≤ maxLen := by
  obtain ⟨s, n, c, rfl, hn, h1, h2, hg⟩ := h.get
  rw [lcells_len, List.length_nil] at hn
  obtain rfl : n = 0 := by omega
  exact ⟨s, c, rfl, h2⟩

/-! ### two lines are compared -/
theorem ln_eq (s s' : ByteArray) (n n' : Int) (c c' : Nat) (w : World) : (Op.equalIn 10000 179 (.agg #[.string s, .int .i64 n, .int .u32 c]) (.agg #[.string s', .int .i64 n', .int .u32 c'])).run Tryz.prog w =
    if s.toList = s'.toList ∧ n = n' ∧ c = c' then .ok true w else .ok false w := by
  have u3 := Tryz.underlying3
  have u5 := Tryz.underlying140
  have u9 := Tryz.underlying9
  have hS : Tryz.prog.underlying 179 = some (.struct (Tryz.prog.fieldsOf 179)) := by kernel_rfl
  rw [show (10000 : Nat) = 9999 + 1 from rfl, run_equalIn_agg w 9999 179 _ _ hS (by kernel_rfl)]
  simp only [Program.fieldsOf, Tryz.underlying179]
  go_simp
  have hk : ((c : Int) = (c' : Int)) ↔ c = c' := by omega
  simp only [hk]
  by_cases h1 : s.toList = s'.toList <;> by_cases h2 : n = n' <;> by_cases h3 : c = c' <;> simp [h1, h2, h3]
theorem ln_same (x : PL) (w : World) : (Op.equalIn 10000 179 (.agg #[.string (bs x.n), .int .i64 x.N, .int .u32 x.S]) (.agg #[.string (bs x.n), .int .i64 x.N, .int .u32 x.S])).run Tryz.prog w = .ok true w := by
  rw [ln_eq, if_pos ⟨rfl, rfl, rfl⟩]
theorem ln_other {x y : PL} (h : x ≠ y) (w : World) : (Op.equalIn 10000 179 (.agg #[.string (bs x.n), .int .i64 x.N, .int .u32 x.S]) (.agg #[.string (bs y.n), .int .i64 y.N, .int .u32 y.S])).run Tryz.prog w = .ok false w := by
  rw [ln_eq, if_neg]
  rintro ⟨h1, h2, h3⟩
  rw [bs_tl', bs_tl'] at h1
  exact h (by cases x; cases y; simp_all)
theorem lnb_same (x : PL) (w : World) : (binOp .eql 179 (.agg #[.string (bs x.n), .int .i64 x.N, .int .u32 x.S]) (.agg #[.string (bs x.n), .int .i64 x.N, .int .u32 x.S])).run Tryz.prog w = .ok (.bool true) w := by
  have h := ln_same x w
  go_simp
theorem lnb_other {x y : PL} (h : x ≠ y) (w : World) : (binOp .eql 179 (.agg #[.string (bs x.n), .int .i64 x.N, .int .u32 x.S]) (.agg #[.string (bs y.n), .int .i64 y.N, .int .u32 y.S])).run Tryz.prog w = .ok (.bool false) w := by
  have h2 := ln_other h w
  go_simp
set_option maxRecDepth 100000 in
set_option maxHeartbeats 3200000 in
theorem step_left (y : PL) (t : List PL) (v1 v2 : Value) (w : World) (h1 : SliceIs w v1 3 (lcells [])) (h2 : SliceIs w v2 3 (lcells (y :: t))) :
    Calls Tryz.prog 148 #[v1, v2] w fun e w' => e = .returned (.tuple #[PS.val ⟨kDrop, y.n⟩, .int .i64 0, .int .i64 1]) ∧ Below w.heap.size w w' := by
  obtain ⟨s1, c1, rfl, k1⟩ := lcells_none h1
  obtain ⟨a2, n2, c2, rfl, hn2, k2, m2, d0, d1, d2⟩ := lcells_head h2
  rw [PS.val_is, bs_kDrop]
  unfold maxLen at m2 k1
  have x0 : (0 : Int) < n2 := by omega
  have x1 : ¬ (n2 : Int) = 0 := by omega
  have x2 : ((n2 : Int) == 0) = false := by rw [beq_eq_false_iff_ne]; exact x1
  have D0 := fun o => cell_kept d0 (wb_alloc w o)
  clear h1 h2 hn2
  go_enter Tryz.func148, Tryz.ntmps148
  go_wp2_with fail
  go_returns
  exact ⟨rfl, wb_alloc _ _⟩
set_option maxRecDepth 100000 in
set_option maxHeartbeats 3200000 in
theorem step_right (x : PL) (a : List PL) (v1 v2 : Value) (w : World) (h1 : SliceIs w v1 3 (lcells (x :: a))) (h2 : SliceIs w v2 3 (lcells [])) :
    Calls Tryz.prog 148 #[v1, v2] w fun e w' => e = .returned (.tuple #[PS.val ⟨kSend, x.n⟩, .int .i64 1, .int .i64 0]) ∧ Below w.heap.size w w' := by
  obtain ⟨a2, n2, c2, rfl, hn2, k2, m2, d0, d1, d2⟩ := lcells_head h1
  obtain ⟨s1, c1, rfl, k1⟩ := lcells_none h2
  rw [PS.val_is, bs_kSend]
  unfold maxLen at m2 k1
  have x0 : (0 : Int) < n2 := by omega
  have x1 : ¬ (n2 : Int) = 0 := by omega
  have x2 : ((n2 : Int) == 0) = false := by rw [beq_eq_false_iff_ne]; exact x1
  have D0 := fun o => cell_kept d0 (wb_alloc w o)
  clear h1 h2 hn2
  go_enter Tryz.func148, Tryz.ntmps148
  go_wp2_with fail
  go_returns
  exact ⟨rfl, wb_alloc _ _⟩
theorem set2s {w : World} {b : Nat} {x y : Value} {t : TypeId} (h : w.heap[b]? = some (.cells #[x, y] t (0, 0))) (u v : Value) :
    ((w.setCell ⟨b, 0, none⟩ u).setCell ⟨b, 1, none⟩ v).cell? ⟨b, 0, none⟩ = some u ∧ ((w.setCell ⟨b, 0, none⟩ u).setCell ⟨b, 1, none⟩ v).cell? ⟨b, 1, none⟩ = some v := by
  have h1 := set_at (k := 0) (u := u) h
  have h2 := set_at (k := 1) (u := v) h1
  constructor
  · simp [World.cell?, h2]
  · simp [World.cell?, h2]
set_option maxRecDepth 100000 in
set_option maxHeartbeats 3200000 in
theorem step_both (x y : PL) (a t : List PL) (v1 v2 : Value) (w : World) (h1 : SliceIs w v1 3 (lcells (x :: a))) (h2 : SliceIs w v2 3 (lcells (y :: t))) :
    Calls Tryz.prog 148 #[v1, v2] w fun e w' => e = .returned (.tuple #[PS.val (stepL (x :: a) (y :: t)).1, .int .i64 (stepL (x :: a) (y :: t)).2.1, .int .i64 (stepL (x :: a) (y :: t)).2.2]) ∧ Below w.heap.size w w' := by
  obtain ⟨a1, n1, c1, rfl, hn1, k1, m1, d0, d1, d2⟩ := lcells_head h1
  obtain ⟨a2, n2, c2, rfl, hn2, k2, m2, e0, e1, e2⟩ := lcells_head h2
  unfold maxLen at m1 m2
  have x0 : (0 : Int) < n1 := by omega
  have x1 : ¬ (n1 : Int) = 0 := by omega
  have x2 : ((n1 : Int) == 0) = false := by rw [beq_eq_false_iff_ne]; exact x1
  have y0 : (0 : Int) < n2 := by omega
  have y1 : ¬ (n2 : Int) = 0 := by omega
  have y2 : ((n2 : Int) == 0) = false := by rw [beq_eq_false_iff_ne]; exact y1
  have B0 := Lib.hid (wb_alloc w (.cells #[.string ⟨#[]⟩, .string ⟨#[]⟩] 185))
  have D0 := cell_kept d0 B0.out
  have D1 := cell_kept d1 B0.out
  have D2 := cell_kept d2 B0.out
  have E0 := cell_kept e0 B0.out
  have E1 := cell_kept e1 B0.out
  have E2 := cell_kept e2 B0.out
  have D1 := (show _ = _ from D1 : (w.alloc (.cells #[.string ⟨#[]⟩, .string ⟨#[]⟩] 185)).cell? ⟨a1.block, a1.off + 1, none⟩ = some (.int .i64 x.N))
  have D2 := (show _ = _ from D2 : (w.alloc (.cells #[.string ⟨#[]⟩, .string ⟨#[]⟩] 185)).cell? ⟨a1.block, a1.off + 2, none⟩ = some (.int .u32 x.S))
  have E1 := (show _ = _ from E1 : (w.alloc (.cells #[.string ⟨#[]⟩, .string ⟨#[]⟩] 185)).cell? ⟨a2.block, a2.off + 1, none⟩ = some (.int .i64 y.N))
  have E2 := (show _ = _ from E2 : (w.alloc (.cells #[.string ⟨#[]⟩, .string ⟨#[]⟩] 185)).cell? ⟨a2.block, a2.off + 2, none⟩ = some (.int .u32 y.S))
  have x0n : 0 < n1 := by omega
  have y0n : 0 < n2 := by omega
  have CM := Lib.hid (fun w' => Tryz.strings_Compare (bs x.n) (bs y.n) w')
  simp only [bs_list] at CM
  have hz := heap_alloc_new w (.cells #[.string ⟨#[]⟩, .string ⟨#[]⟩] 185)
  clear h1 h2 hn1 hn2 d0 d1 d2 e0 e1 e2
  rcases ltL_tri x.n y.n with h | h | h
  · rw [cmp_lt h] at CM
    rw [step_lt h, PS.val_is, bs_kSend]
    clear h
    go_enter Tryz.func148, Tryz.ntmps148
    go_wp2_with fail
    generalize w.alloc (.cells #[.string ⟨#[]⟩, .string ⟨#[]⟩] 185) = w1 at *
    have f0 : w1.frozen? ⟨w.heap.size, 0, none⟩ = false := by simp [World.frozen?, hz]
    have f1 : w1.frozen? ⟨w.heap.size, 1, none⟩ = false := by simp [World.frozen?, hz]
    have z0 : w1.cell? ⟨w.heap.size, 0, none⟩ = some (.string ⟨#[]⟩) := by simp [World.cell?, hz]
    have z1 : w1.cell? ⟨w.heap.size, 1, none⟩ = some (.string ⟨#[]⟩) := by simp [World.cell?, hz]
    obtain ⟨r0, r1⟩ := set2s hz (.string ⟨#[115, 101, 110, 100]⟩) (.string (bs x.n))
    have bb := (B0.out.setCell (p := ⟨w.heap.size, 0, none⟩) (Nat.le_refl _) (.string ⟨#[115, 101, 110, 100]⟩)).setCell (p := ⟨w.heap.size, 1, none⟩) (Nat.le_refl _) (.string (bs x.n))
    clear hz
    go_region_law (go_simp; go_at_call 136; refine (CM.out _).mono ?_; rintro e w2 ⟨rfl, rfl⟩)
    all_goals
      go_wp2_with fail
      refine bodyPost_ret (by simp [results, Tryz.results148, go_sem, r0, r1]; try rfl) rfl ?_
      exact ⟨rfl, by first | exact below_drewN bb 1 | exact below_drewN bb _⟩
  · rw [show Lib.compareBytes x.n y.n = 0 by rw [h, cmp_eq]] at CM
    by_cases hxy : x = y
    · subst hxy
      have EQ := lnb_same x
      rw [step_same rfl, PS.val_is, bs_kKeep]
      clear h
      go_enter Tryz.func148, Tryz.ntmps148
      go_wp2_with fail
      generalize w.alloc (.cells #[.string ⟨#[]⟩, .string ⟨#[]⟩] 185) = w1 at *
      have f0 : w1.frozen? ⟨w.heap.size, 0, none⟩ = false := by simp [World.frozen?, hz]
      have f1 : w1.frozen? ⟨w.heap.size, 1, none⟩ = false := by simp [World.frozen?, hz]
      have z0 : w1.cell? ⟨w.heap.size, 0, none⟩ = some (.string ⟨#[]⟩) := by simp [World.cell?, hz]
      have z1 : w1.cell? ⟨w.heap.size, 1, none⟩ = some (.string ⟨#[]⟩) := by simp [World.cell?, hz]
      have rr := fun n => set2s (show (w1.drewN n).heap[w.heap.size]? = _ from hz) (.string ⟨#[107, 101, 101, 112]⟩) (.string (bs x.n))
      have r0 := fun n => (rr n).1
      have r1 := fun n => (rr n).2
      have bb := (B0.out.setCell (p := ⟨w.heap.size, 0, none⟩) (Nat.le_refl _) (.string ⟨#[107, 101, 101, 112]⟩)).setCell (p := ⟨w.heap.size, 1, none⟩) (Nat.le_refl _) (.string (bs x.n))
      clear hz
      go_region_law (go_simp; go_at_call 136; refine (CM.out _).mono ?_; rintro e w2 ⟨rfl, rfl⟩)
      all_goals
        go_wp2_with fail
        go_quiet (fail)
        go_wp2_with fail
        refine bodyPost_ret (by simp [results, Tryz.results148, go_sem, r0, r1]; try rfl) rfl ?_
        exact ⟨rfl, by first | exact below_drewN bb 1 | exact below_drewN bb _⟩
    · have EQ := lnb_other hxy
      rw [step_new hxy h, PS.val_is, bs_kSend]
      clear h hxy
      go_enter Tryz.func148, Tryz.ntmps148
      go_wp2_with fail
      generalize w.alloc (.cells #[.string ⟨#[]⟩, .string ⟨#[]⟩] 185) = w1 at *
      have f0 : w1.frozen? ⟨w.heap.size, 0, none⟩ = false := by simp [World.frozen?, hz]
      have f1 : w1.frozen? ⟨w.heap.size, 1, none⟩ = false := by simp [World.frozen?, hz]
      have z0 : w1.cell? ⟨w.heap.size, 0, none⟩ = some (.string ⟨#[]⟩) := by simp [World.cell?, hz]
      have z1 : w1.cell? ⟨w.heap.size, 1, none⟩ = some (.string ⟨#[]⟩) := by simp [World.cell?, hz]
      have rr := fun n => set2s (show (w1.drewN n).heap[w.heap.size]? = _ from hz) (.string ⟨#[115, 101, 110, 100]⟩) (.string (bs x.n))
      have r0 := fun n => (rr n).1
      have r1 := fun n => (rr n).2
      have bb := (B0.out.setCell (p := ⟨w.heap.size, 0, none⟩) (Nat.le_refl _) (.string ⟨#[115, 101, 110, 100]⟩)).setCell (p := ⟨w.heap.size, 1, none⟩) (Nat.le_refl _) (.string (bs x.n))
      clear hz
      go_region_law (go_simp; go_at_call 136; refine (CM.out _).mono ?_; rintro e w2 ⟨rfl, rfl⟩)
      all_goals
        go_wp2_with fail
        go_quiet (fail)
        go_wp2_with fail
        refine bodyPost_ret (by simp [results, Tryz.results148, go_sem, r0, r1]; try rfl) rfl ?_
        exact ⟨rfl, by first | exact below_drewN bb 1 | exact below_drewN bb _⟩
  · rw [cmp_gt h] at CM
    rw [step_gt h, PS.val_is, bs_kDrop]
    clear h
    go_enter Tryz.func148, Tryz.ntmps148
    go_wp2_with fail
    generalize w.alloc (.cells #[.string ⟨#[]⟩, .string ⟨#[]⟩] 185) = w1 at *
    have f0 : w1.frozen? ⟨w.heap.size, 0, none⟩ = false := by simp [World.frozen?, hz]
    have f1 : w1.frozen? ⟨w.heap.size, 1, none⟩ = false := by simp [World.frozen?, hz]
    have z0 : w1.cell? ⟨w.heap.size, 0, none⟩ = some (.string ⟨#[]⟩) := by simp [World.cell?, hz]
    have z1 : w1.cell? ⟨w.heap.size, 1, none⟩ = some (.string ⟨#[]⟩) := by simp [World.cell?, hz]
    obtain ⟨r0, r1⟩ := set2s hz (.string ⟨#[100, 114, 111, 112]⟩) (.string (bs y.n))
    have bb := (B0.out.setCell (p := ⟨w.heap.size, 0, none⟩) (Nat.le_refl _) (.string ⟨#[100, 114, 111, 112]⟩)).setCell (p := ⟨w.heap.size, 1, none⟩) (Nat.le_refl _) (.string (bs y.n))
    clear hz
    go_region_law (go_simp; go_at_call 136; refine (CM.out _).mono ?_; rintro e w2 ⟨rfl, rfl⟩)
    all_goals
      go_wp2_with fail
      refine bodyPost_ret (by simp [results, Tryz.results148, go_sem, r0, r1]; try rfl) rfl ?_
      exact ⟨rfl, by first | exact below_drewN bb 1 | exact below_drewN bb _⟩
theorem flstep_any (a t : List PL) (v1 v2 : Value) (w : World) (h1 : SliceIs w v1 3 (lcells a)) (h2 : SliceIs w v2 3 (lcells t)) (hne : ¬ (a = [] ∧ t = [])) :
    Calls Tryz.prog 148 #[v1, v2] w fun e w' => e = .returned (.tuple #[PS.val (stepL a t).1, .int .i64 (stepL a t).2.1, .int .i64 (stepL a t).2.2]) ∧ Below w.heap.size w w' := by
  cases a with
  | nil =>
    cases t with
    | nil => exact absurd ⟨rfl, rfl⟩ hne
    | cons y t => rw [step_nil]; exact step_left y t v1 v2 w h1 h2
  | cons x a =>
    cases t with
    | nil => rw [step_one]; exact step_right x a v1 v2 w h1 h2
    | cons y t => exact step_both x y a t v1 v2 w h1 h2
end Go.Proofs.YtppkeophochgiaaGreatDoor
/- Contract of slices.Insert at files, one element. -/
namespace Go.Proofs.YtppkeophochgiaaGreatDoor
open Go.RowKit
set_option linter.unusedVariables false

theorem fcells_take (l : List PF) (k : Nat) : (fcells l).take (k * 2) = fcells (l.take k) := rowc_take _ _ l k
theorem fcells_drop (l : List PF) (k : Nat) : (fcells l).drop (k * 2) = fcells (l.drop k) := by
  induction l generalizing k with
  | nil => simp [fcells_nil]
  | cons o l ih =>
    match k with
    | 0 => simp
    | k + 1 =>
      rw [List.drop_succ_cons, ← ih k, show (k + 1) * 2 = k * 2 + 2 by omega]
      rfl
theorem chg_row {w w' : World} {v : Value} (h : w.grownBy w' v.ownBlock) : Chg w w' (RowOf v) := ⟨h.os, h.tape, h.output, h.size, fun k hk hn => h.block k hk (fun e => hn e.symm)⟩
theorem rowOf_any {va : Option Addr} {n c n' c' x : Nat} (h : RowOf (.slice va n c) x) : RowOf (.slice va n' c') x := by cases va <;> exact h
theorem sizeFile : (Tryz.prog.info? 130).map (·.size) = some 2 := by kernel_rfl
theorem two_newsF {w : World} {b : Nat} {u0 u1 : Value} {t : TypeId} (h : w.heap[b]? = some (.cells #[u0, u1] t (0, 0))) : ∀ j u', [u0, u1][j]? = some u' → w.cell? ((⟨b, 0, none⟩ : Addr).add j) = some u' := by
  intro j u' hj
  match j, hj with
  | 0, hj => simp at hj; subst hj; simp [World.cell?, h, Addr.add]
  | 1, hj => simp at hj; subst hj; simp [World.cell?, h, Addr.add]
theorem slice_one {w : World} {b : Nat} {f : PF} (h : w.heap[b]? = some (.cells #[.string (bs f.n), .string (bs f.d)] 130 (0, 0))) : SliceIs w (.slice (some ⟨b, 0, none⟩) 1 1) 2 (fcells [f]) :=
  .inr ⟨_, 1, 1, rfl, Nat.le_refl _, by unfold maxLen; omega, rfl, two_newsF h⟩
set_option maxRecDepth 100000 in
set_option maxHeartbeats 3200000 in
/-- at the end -/
theorem ins_end (l : List PF) (f : PF) (base vb : Nat) (v : Value) (w : World) (hown : w.ownsRow base 130 2 v l.length (fcells l)) (hvb : w.heap[vb]? = some (.cells #[.string (bs f.n), .string (bs f.d)] 130 (0, 0))) (hbase : base ≤ w.heap.size) (hlen : l.length ≤ 1000000) :
    Calls Tryz.prog 99 #[v, .int .i64 l.length, .slice (some ⟨vb, 0, none⟩) 1 1] w fun e w' => ∃ r, e = .returned r ∧ w'.ownsRow base 130 2 r (l.length + 1) (fcells (l ++ [f])) ∧ Chg w w' (RowOf v) := by
  obtain ⟨i0, hi, hz0, hz1, hz2⟩ := info_parts infoFile
  have HO := Lib.hid hown
  have HV := Lib.hid (slice_one hvb)
  obtain ⟨va, vc, rfl⟩ := owns_slice hown
  have HN1 : Hid (l.length + 1 ≤ maxLen) := by show _ ≤ _; unfold maxLen; omega
  have HN2 : Hid ((l.length + 1) * 32 ≤ 140737488355328) := by show _ ≤ _; omega
  have LEN := Lib.hid (fcells_len [f])
  have hcap : l.length ≤ vc ∧ vc ≤ maxLen := by
    obtain ⟨s, n, c, e, _, h1, h2, _⟩ := (SliceIs.ownedK hown).get
    cases e; exact ⟨h1, h2⟩
  obtain ⟨hc1, hc2⟩ := hcap
  unfold maxLen at hc2
  have y0 : (0 : Int) ≤ l.length := by omega
  have y1 : (l.length : Int).toNat = l.length := by omega
  have y2 : (l.length : Int) ≤ l.length := by omega
  clear hown hvb
  go_enter Tryz.func99, Tryz.ntmps99
  go_wp2_with (at_builtin; refine wpList_append_is rfl (.tmp 23) (.tmp 24) 33 rfl base 130 i0 _ 2 32 Tryz.underlying33 hi hz0 hz1 hz2 rfl (by decide) _ l.length _ rfl HO.out _ 1 _ rfl HV.out LEN.out (fcells_cell [f]) HN1.out HN2.out hbase ?_; intro v' w5 hown5 hgrow _; have HO5 := Lib.hid hown5; have HG5 := Lib.hid (chg_row hgrow); clear hown5 hgrow)
  all_goals
    go_ret
    exact ⟨_, rfl, by rw [fcells_append]; exact HO5.out, (show Chg w w5 (RowOf (.slice va l.length vc)) from HG5.out).more (fun x _ h => rowOf_any h)⟩

theorem shape_cells {w : World} {b : Nat} {cs : Array Value} {t : TypeId} {fr : Nat × Nat} (h : w.heap[b]? = some (.cells cs t fr)) : w.shape? b = some (t, cs.size) := by simp [World.shape?, h]
set_option maxRecDepth 100000 in
theorem overl_any (vb g o la ca lb cb : Nat) (w : World) (hne : vb ≠ g) {cv cg : Array Value} {tv tg : TypeId} (hv : w.heap[vb]? = some (.cells cv tv (0, 0))) (hg : w.heap[g]? = some (.cells cg tg (0, 0))) (hgs : cg.size ≠ 0) :
    (callFunc 137 #[.slice (some ⟨vb, 0, none⟩) la ca, .slice (some ⟨g, o, none⟩) lb cb]).run Tryz.prog w = .ok (.value (.bool false)) w := by
  rw [run_callFunc_extern Tryz.func137 (by kernel_rfl) (by kernel_rfl) (by kernel_rfl) (e := Extern.SlicesOverlaps.overlaps #[33, 33] #[4]) (by kernel_rfl),
    Lib.run_overlaps_apart w 33 4 130 Tryz.underlying33 2 Tryz.sizeOf130 ⟨vb, 0, none⟩ ⟨g, o, none⟩ la ca lb cb hne tv tg cv.size cg.size (shape_cells hv) (shape_cells hg) hgs (by simp [World.frozen?, hv]) (by simp [World.frozen?, hv])]
  rfl
theorem ins_cells (l : List PF) (ys : List Value) {i : Nat} (hi : i < l.length) (hys : ys.length = (l.length + 1 - l.length) * 2) {c : List Value} :
    ((fcells l ++ ys).take ((i + 1) * 2) ++ fcells (l.drop i) ++ (fcells l ++ ys).drop ((i + 1 + (l.length - i)) * 2)).take (i * 2) ++ c ++ ((fcells l ++ ys).take ((i + 1) * 2) ++ fcells (l.drop i) ++ (fcells l ++ ys).drop ((i + 1 + (l.length - i)) * 2)).drop ((i + 1) * 2) = fcells (l.take i) ++ (c ++ fcells (l.drop i)) := by
  have h1 : (fcells l ++ ys).drop ((i + 1 + (l.length - i)) * 2) = [] := List.drop_of_length_le (by rw [List.length_append, fcells_len, hys]; omega)
  have h2 : (fcells l ++ ys).take ((i + 1) * 2) = fcells (l.take (i + 1)) := by rw [List.take_append_of_le_length (by rw [fcells_len]; omega), fcells_take]
  have h3 : (fcells (l.take (i + 1))).length = (i + 1) * 2 := by rw [fcells_len, List.length_take]; omega
  rw [h1, h2, List.append_nil, List.take_append_of_le_length (by rw [h3]; omega), fcells_take, List.take_take, Nat.min_eq_left (by omega), List.drop_append_of_le_length (by rw [h3]; exact Nat.le_refl _), List.drop_of_length_le (by rw [h3]; exact Nat.le_refl _), List.nil_append, List.append_assoc]
set_option maxRecDepth 100000 in
set_option maxHeartbeats 6400000 in
/-- ahead of the end, with room -/
theorem ins_room (l : List PF) (f : PF) (i base vb g cap : Nat) (w : World) (hown : w.ownsRow base 130 2 (.slice (some ⟨g, 0, none⟩) l.length cap) l.length (fcells l)) (hvb : w.heap[vb]? = some (.cells #[.string (bs f.n), .string (bs f.d)] 130 (0, 0))) (hne : vb ≠ g) (hi : i < l.length) (hroom : l.length + 1 ≤ cap) (hlen : l.length ≤ 1000000) :
    Calls Tryz.prog 99 #[.slice (some ⟨g, 0, none⟩) l.length cap, .int .i64 i, .slice (some ⟨vb, 0, none⟩) 1 1] w fun e w' => ∃ r, e = .returned r ∧ w'.ownsRow base 130 2 r (l.length + 1) (fcells (l.take i ++ f :: l.drop i)) ∧ Chg w w' (RowOf (.slice (some ⟨g, 0, none⟩) l.length cap)) := by
  obtain ⟨ys, hys, HX⟩ := own_extend hown (k := l.length + 1) (by omega) hroom
  have hd := HX.drew
  have hcl : (fcells (l.drop i)).length = (l.length - i) * 2 := by rw [fcells_len, List.length_drop]
  obtain ⟨w1, hrun1, O1, G1⟩ := run_copy_own (dT := 33) (sT := 33) hd Tryz.underlying33 sizeFile (o := i + 1) (m := l.length - i) hcl (by omega) (fcells_cell _)
  obtain ⟨w2, hrun2, O2, G2⟩ := run_copy_own (dT := 33) (sT := 33) O1 Tryz.underlying33 sizeFile (o := i) (m := 1) (fcells_len [f]) (by omega) (fcells_cell [f])
  have hg0 : ∃ cur, w.heap[g]? = some (.cells cur 130 (0, 0)) ∧ cur.size ≠ 0 := by
    obtain ⟨_, h2⟩ := hown
    rcases h2 with ⟨h2, _⟩ | ⟨g', cap', cur, hv, _, hh, h3, _, h5, _⟩
    · cases h2
    · cases hv; exact ⟨cur, hh, by rw [h5]; omega⟩
  obtain ⟨cur, hg1, hg2⟩ := hg0
  have hov : ∀ o lb cb, (callFunc 137 #[.slice (some ⟨vb, 0, none⟩) 1 1, .slice (some ⟨g, o, none⟩) lb cb]).run Tryz.prog w = .ok (.value (.bool false)) w := fun o lb cb => overl_any vb g o 1 1 lb cb w hne hvb hg1 hg2
  have hcm : cap ≤ 9223372036854775807 := by
    obtain ⟨s, n, c, e, _, h1, h2, _⟩ := (SliceIs.ownedK hown).get
    cases e; unfold maxLen at h2; omega
  have hvw1 : w1.heap[vb]? = some (.cells #[.string (bs f.n), .string (bs f.d)] 130 (0, 0)) := (G1.block vb (lt_of_block (w := w) hvb) (fun e => by cases e; exact hne rfl)).trans hvb
  have hfin : fcells (l.take i ++ f :: l.drop i) = ((fcells l ++ ys).take ((i + 1) * 2) ++ fcells (l.drop i) ++ (fcells l ++ ys).drop ((i + 1 + (l.length - i)) * 2)).take (i * 2) ++ fcells [f] ++ ((fcells l ++ ys).take ((i + 1) * 2) ++ fcells (l.drop i) ++ (fcells l ++ ys).drop ((i + 1 + (l.length - i)) * 2)).drop ((i + 1) * 2) := by
    rw [ins_cells l ys hi hys]
    rw [fcells_append]
    rfl
  have HRUN1 := Lib.hid hrun1
  have HRUN2 := Lib.hid hrun2
  have HO2 := Lib.hid O2
  have HFIN := Lib.hid hfin
  have HG1 := Lib.hid G1
  have HG2 := Lib.hid G2
  have SRC1 : Hid (∀ j v, (fcells (l.drop i))[j]? = some v → w.drew.cell? ((⟨g, i * 2, none⟩ : Addr).add j) = some v) := Lib.hid (fun j v hj => by
    have h1 := (hd.cells (g := g) rfl) (i * 2 + j) v (by
      rw [List.getElem?_append_left (by rw [fcells_len]; have := (List.getElem?_eq_some_iff.1 hj).1; rw [hcl] at this; omega)]
      rw [← fcells_drop, List.getElem?_drop] at hj
      exact hj)
    rw [Addr.add_lit] at h1 ⊢
    rw [Nat.zero_add] at h1
    exact h1)
  have MIN1 := Lib.hid (show Nat.min (l.length + 1 - i) (l.length + 1 - (i + 1)) = l.length - i by simp only [Nat.min_def]; split <;> omega)
  have MIN2 := Lib.hid (show Nat.min 1 (l.length + 1 - i) = 1 by simp only [Nat.min_def]; split <;> omega)
  have SRC2 := Lib.hid (two_newsF hvw1)
  have y1 : (0 : Int) ≤ i := by omega
  have y2 : (i : Int).toNat = i := by omega
  have y3 : (i : Int) ≤ l.length := by omega
  have y4 : ¬ ((i : Int) = l.length) := by omega
  have y5 : ((i : Int) == l.length) = false := by simpa using y4
  have y6 : ¬ (cap : Int) < (l.length : Int) + 1 := by omega
  have y7 : (l.length : Int) + 1 ≤ cap := by omega
  have y8 : ((l.length : Int) + 1).toNat = l.length + 1 := by omega
  have y9 : ((i : Int) + 1).toNat = i + 1 := by omega
  have ya : (i : Int) + 1 ≤ (l.length : Int) + 1 := by omega
  have yb : ¬ cap = i := by omega
  have yf : (i : Int) ≤ (l.length : Int) + 1 := by omega
  have yd : IntKind.i64.wrap ((i : Int) + 1) = (i : Int) + 1 := IntWalk.i64_in _ (by omega)
  have ye : (0 : Int) ≤ (i : Int) + 1 := by omega
  have yc : ¬ cap = i + 1 := by omega
  clear hown hvb HX hd hrun1 hrun2 O1 O2 G1 G2 hfin hvw1 hg1 hg2 hys hcl
  go_enter Tryz.func99, Tryz.ntmps99
  go_wp2_with (simp only [hov])
  go_region_law (refine step_copy_run rfl (.tmp 73) (.tmp 76) 33 33 rfl _ _ (by simp [Act.eval, Act.put]) (by simp [Act.eval, Act.put]) (HRUN1.out _ (l.length + 1 - (i + 1)) (cap - (i + 1)) ⟨g, i * 2, none⟩ (l.length + 1 - i) (cap - i) MIN1.out SRC1.out) ?_)
  all_goals
    go_wp2_with (refine wpList_copy_run rfl (.tmp 80) (.tmp 81) 33 33 rfl _ _ rfl rfl (HRUN2.out _ (l.length + 1 - i) (cap - i) ⟨vb, 0, none⟩ 1 1 MIN2.out SRC2.out) ?_)
    go_ret
    refine ⟨_, rfl, ?_, ?_⟩
    · rw [HFIN.out]; exact HO2.out
    · exact ((Chg.refl w _).drew.trans (Chg.of_grown HG1.out) (fun x _ h => by subst h; rfl)).trans (Chg.of_grown HG2.out) (fun x _ h => by subst h; rfl)
end Go.Proofs.YtppkeophochgiaaGreatDoor
/- Contract of slices.Insert at files, ahead of the end, where the row must grow. -/
namespace Go.Proofs.YtppkeophochgiaaGreatDoor
open Go.RowKit
set_option linter.unusedVariables false

theorem file_zero : ∃ i0 z, Tryz.prog.info? 130 = some i0 ∧ i0.zero = some z ∧ i0.size = 2 ∧ i0.bytes = 32 ∧ z.cells.size = 2 := by
  obtain ⟨i0, hi, hz0, hz1, hz2⟩ := info_parts infoFile
  exact ⟨i0, _, hi, hz0, hz1, hz2, rfl⟩
theorem grow_cells (l : List PF) (f : PF) (zs : List Value) {i k : Nat} (hi : i < l.length) (hk : i + k = l.length + 1) (hzs : zs.length = k * 2) :
    (((fcells l).take (i * 2) ++ zs).take (i * 2) ++ fcells [f] ++ ((fcells l).take (i * 2) ++ zs).drop ((i + 1) * 2)).take ((i + 1) * 2) ++ fcells (l.drop i) ++ (((fcells l).take (i * 2) ++ zs).take (i * 2) ++ fcells [f] ++ ((fcells l).take (i * 2) ++ zs).drop ((i + 1) * 2)).drop ((i + 1 + (k - 1)) * 2) = fcells (l.take i ++ f :: l.drop i) := by
  have h1 : ((fcells l).take (i * 2)).length = i * 2 := by rw [List.length_take, fcells_len]; omega
  have h2 : ((fcells l).take (i * 2) ++ zs).take (i * 2) = fcells (l.take i) := by rw [List.take_append_of_le_length (by rw [h1]; exact Nat.le_refl _), List.take_take, Nat.min_self, fcells_take]
  have h4 : (fcells (l.take i) ++ fcells [f]).length = (i + 1) * 2 := by rw [List.length_append, fcells_len, fcells_len, List.length_take]; simp; omega
  rw [h2]
  have h5 : (fcells (l.take i) ++ fcells [f] ++ ((fcells l).take (i * 2) ++ zs).drop ((i + 1) * 2)).drop ((i + 1 + (k - 1)) * 2) = [] := List.drop_of_length_le (by rw [List.length_append, h4, List.length_drop, List.length_append, h1, hzs]; omega)
  rw [h5, List.append_nil, List.take_append_of_le_length (by rw [h4]; exact Nat.le_refl _), List.take_of_length_le (by rw [h4]; exact Nat.le_refl _), fcells_append, List.append_assoc]
  rfl
set_option maxRecDepth 100000 in
set_option maxHeartbeats 6400000 in
theorem ins_grow (l : List PF) (f : PF) (i base vb g cap : Nat) (w : World) (hown : w.ownsRow base 130 2 (.slice (some ⟨g, 0, none⟩) l.length cap) l.length (fcells l)) (hvb : w.heap[vb]? = some (.cells #[.string (bs f.n), .string (bs f.d)] 130 (0, 0))) (hi : i < l.length) (hroom : cap < l.length + 1) (hbase : base ≤ w.heap.size) (hlen : l.length ≤ 1000000) :
    Calls Tryz.prog 99 #[.slice (some ⟨g, 0, none⟩) l.length cap, .int .i64 i, .slice (some ⟨vb, 0, none⟩) 1 1] w fun e w' => ∃ r, e = .returned r ∧ w'.ownsRow base 130 2 r (l.length + 1) (fcells (l.take i ++ f :: l.drop i)) ∧ Chg w w' (RowOf (.slice (some ⟨g, 0, none⟩) l.length cap)) := by
  obtain ⟨k, hk⟩ : ∃ k, i + k = l.length + 1 := ⟨l.length + 1 - i, by omega⟩
  obtain ⟨i0, z, hi0, hz0, hz1, hz2, hz3⟩ := file_zero
  have hcl : (fcells (l.drop i)).length = (k - 1) * 2 := by rw [fcells_len, List.length_drop]; omega
  have hg0 : ∃ cur, w.heap[g]? = some (.cells cur 130 (0, 0)) := by
    obtain ⟨_, h2⟩ := hown
    rcases h2 with ⟨h2, _⟩ | ⟨g', cap', cur, hv, _, hh, h3, _, h5, _⟩
    · cases h2
    · cases hv; exact ⟨cur, hh⟩
  obtain ⟨cur, hg1⟩ := hg0
  have hgl := lt_of_block hg1
  have hvl := lt_of_block hvb
  obtain ⟨w1, G, hrun0, O0, B0⟩ := run_append_zeros_own (t := 33) (tn := 3) hown Tryz.underlying33 Tryz.underlying3 hi0 hz0 hz1 hz2 hz3 (by decide) (i := i) (k := k) (by omega) (by omega) (by omega) (by unfold maxLen; omega) (by omega) hbase
  obtain ⟨w2, hrun1, O1, G1⟩ := run_copy_own (dT := 33) (sT := 33) O0 Tryz.underlying33 sizeFile (o := i) (m := 1) (fcells_len [f]) (by omega) (fcells_cell [f])
  obtain ⟨w3, hrun2, O2, G2⟩ := run_copy_own (dT := 33) (sT := 33) O1.drew Tryz.underlying33 sizeFile (o := i + 1) (m := k - 1) hcl (by omega) (fcells_cell _)
  rw [grow_cells l f _ hi hk (by rw [Array.length_toList, size_zeroCells, hz3])] at O2
  have hvw1 : w1.heap[vb]? = some (.cells #[.string (bs f.n), .string (bs f.d)] 130 (0, 0)) := (B0.block vb hvl).trans hvb
  have hgw2 : w2.heap[g]? = w.heap[g]? := (G1.block g (Nat.lt_of_lt_of_le hgl B0.size) (fun e => by cases e; omega)).trans (B0.block g hgl)
  have HRUN0 := Lib.hid hrun0
  have HRUN1 := Lib.hid hrun1
  have HRUN2 := Lib.hid hrun2
  have HO2 := Lib.hid O2
  have HB0 := Lib.hid B0
  have HG1 := Lib.hid G1
  have HG2 := Lib.hid G2
  have SRC1 := Lib.hid (two_newsF hvw1)
  have SRC2 : Hid (∀ j v, (fcells (l.drop i))[j]? = some v → w2.drew.cell? ((⟨g, i * 2, none⟩ : Addr).add j) = some v) := Lib.hid (fun j v hj => by
    have h1 := (hown.cells (g := g) rfl) (i * 2 + j) v (by
      rw [← fcells_drop, List.getElem?_drop] at hj
      exact hj)
    rw [Addr.add_lit] at h1 ⊢
    rw [Nat.zero_add] at h1
    have h2 : w2.drew.heap[g]? = w.heap[g]? := hgw2
    simp only [World.cell?] at h1 ⊢
    rw [h2]
    exact h1)
  have MIN1 := Lib.hid (show Nat.min 1 (l.length + 1 - i) = 1 by simp only [Nat.min_def]; split <;> omega)
  have MIN2 := Lib.hid (show Nat.min (l.length - i) (l.length + 1 - (i + 1)) = k - 1 by simp only [Nat.min_def]; split <;> omega)
  have yl : l.length ≤ cap := by have := (SliceIs.ownedK hown).get; obtain ⟨s, n, c, e, _, h1, h2, _⟩ := this; cases e; omega
  have y1 : (0 : Int) ≤ i := by omega
  have y2 : (i : Int).toNat = i := by omega
  have y3 : (i : Int) ≤ l.length := by omega
  have y4 : ¬ ((i : Int) = l.length) := by omega
  have y5 : ((i : Int) == l.length) = false := by simpa using y4
  have y6 : (cap : Int) < (l.length : Int) + 1 := by omega
  have y7 : (i : Int) ≤ cap := by omega
  have yG : l.length + 1 ≤ G := by have := (SliceIs.ownedK O0).get; obtain ⟨s, n, c, e, _, h1, h2, _⟩ := this; cases e; omega
  have yc : ¬ G = i + 1 := by omega
  have yi : (i : Int) + 1 ≤ (l.length : Int) + 1 := by omega
  have yj : (i : Int) ≤ (l.length : Int) + 1 := by omega
  have yk : ¬ cap = i := by omega
  have y8 : (l.length : Int) + 1 - i = k := by omega
  have yb : IntKind.i64.wrap (k : Int) = k := IntWalk.i64_in _ (by omega)
  have Y := Lib.hid (show (l.length : Int) + 1 - i = k from y8)
  have yd : IntKind.i64.wrap ((i : Int) + 1) = (i : Int) + 1 := IntWalk.i64_in _ (by omega)
  have ye : (0 : Int) ≤ (i : Int) + 1 := by omega
  have ya : (i : Int) + 1 ≤ (i : Int) + k := by omega
  have yf : ((i : Int) + 1).toNat = i + 1 := by omega
  have yg : (i : Int) ≤ (i : Int) + k := by omega
  have LT := Lib.hid (And.intro hgl hvl)
  have HROOM := Lib.hid hroom
  have HI := Lib.hid hi
  have HK := Lib.hid hk
  clear hown hvb hrun0 hrun1 hrun2 O0 O1 O2 B0 G1 G2 hvw1 hg1 hgw2 hcl hi0 hz0 hz1 hz2 hz3 hgl hvl hroom hbase y4
  clear i0 z cur
  go_enter Tryz.func99, Tryz.ntmps99
  go_wp2_with (first | refine wpList_append_run rfl (.tmp 34) (.tmp 39) 33 3 rfl (.slice (some ⟨g, 0, none⟩) i cap) (.int .i64 k) rfl rfl (HRUN0.out _) ?_ | refine wpList_copy_run rfl (.tmp 43) (.tmp 44) 33 33 rfl _ _ rfl rfl (HRUN1.out _ (l.length + 1 - i) (G - i) ⟨vb, 0, none⟩ 1 1 MIN1.out SRC1.out) ?_)
  go_region_law (refine step_copy_run rfl (.tmp 50) (.tmp 53) 33 33 rfl _ _ (by simp [Act.eval, Act.put]) (by simp [Act.eval, Act.put]) (HRUN2.out _ (l.length + 1 - (i + 1)) (G - (i + 1)) ⟨g, i * 2, none⟩ (l.length - i) (cap - i) MIN2.out SRC2.out) ?_)
  all_goals
    go_wp2_with fail
    go_ret
    refine ⟨_, rfl, (show w3.ownsRow base 130 2 (.slice (some ⟨w.heap.size, 0, none⟩) (l.length + 1) G) (l.length + 1) (fcells (l.take i ++ f :: l.drop i)) by rw [← hk]; exact HO2.out), ?_⟩
    exact (((Chg.of_below HB0.out (RowOf (.slice (some ⟨g, 0, none⟩) l.length cap))).trans (Chg.of_grown HG1.out) (fun x hx h => absurd hx (by subst h; exact Nat.lt_irrefl _))).drew.trans (Chg.of_grown HG2.out) (fun x hx h => absurd hx (by subst h; exact Nat.lt_irrefl _)))
set_option maxRecDepth 100000 in
/-- slices.Insert of one file -/
theorem insert_any (l : List PF) (f : PF) (i base vb : Nat) (v : Value) (w : World) (hown : w.ownsRow base 130 2 v l.length (fcells l)) (hvb : w.heap[vb]? = some (.cells #[.string (bs f.n), .string (bs f.d)] 130 (0, 0))) (hne : ¬ RowOf v vb) (hi : i ≤ l.length) (hbase : base ≤ w.heap.size) (hlen : l.length ≤ 1000000) :
    Calls Tryz.prog 99 #[v, .int .i64 i, .slice (some ⟨vb, 0, none⟩) 1 1] w fun e w' => ∃ r, e = .returned r ∧ w'.ownsRow base 130 2 r (l.length + 1) (fcells (l.take i ++ f :: l.drop i)) ∧ Chg w w' (RowOf v) := by
  by_cases he : i = l.length
  · subst he
    refine (ins_end l f base vb v w hown hvb hbase hlen).mono ?_
    rintro e w' ⟨r, rfl, h1, h2⟩
    exact ⟨r, rfl, by rw [List.take_length, List.drop_length]; exact h1, h2⟩
  · have hv : ∃ g cap, v = .slice (some ⟨g, 0, none⟩) l.length cap := by
      obtain ⟨_, h2⟩ := hown
      rcases h2 with ⟨_, h2⟩ | ⟨g', cap', cur, hv, _, hh, h3, _, h5, _⟩
      · omega
      · exact ⟨g', cap', hv⟩
    obtain ⟨g, cap, rfl⟩ := hv
    by_cases hr : l.length + 1 ≤ cap
    · exact ins_room l f i base vb g cap w hown hvb (fun e => hne (by subst e; rfl)) (by omega) hr hlen
    · exact ins_grow l f i base vb g cap w hown hvb (by omega) (by omega) hbase hlen
end Go.Proofs.YtppkeophochgiaaGreatDoor
/- Contracts of files.find and files.Put. -/
namespace Go.Proofs.YtppkeophochgiaaGreatDoor
open Go.RowKit
set_option linter.unusedVariables false

theorem place_there {l : List PF} {n d : List UInt8} (hs : l.Pairwise fun a b => ltL a.n b.n = true) (h : fgetL l n = some d) : ∃ hp : placeL l n < l.length, (l[placeL l n]'hp).n = n := by
  obtain ⟨j, hj, hje⟩ := List.getElem_of_mem (fgetL_some h)
  have hjn : l[j].n = n := by rw [hje]
  have hP := List.pairwise_iff_getElem.1 hs
  have e : j = placeL l n := by
    refine place_of hs (Nat.le_of_lt hj) (fun i hi hij => ?_) (fun i hi hij => ?_)
    · have := hP i j hi hj hij; rw [hjn] at this; exact this
    · rcases Nat.lt_or_eq_of_le hij with hl | rfl
      · have := hP j i hj hi hl; rw [hjn] at this; exact ltL_asymm this
      · rw [hjn]; exact ltL_irrefl _
  subst e
  exact ⟨hj, hjn⟩
theorem fcells_setd {l : List PF} {p : Nat} (hp : p < l.length) (n d : List UInt8) (hn : l[p].n = n) : (fcells l).set (p * 2 + 1) (.string (bs d)) = fcells (l.set p ⟨n, d⟩) := by
  have h := rowc_set fn0 fn1 l p ⟨n, d⟩
  have h0 : (fcells l).set (p * 2) (.string (bs n)) = fcells l := by
    obtain ⟨g, _⟩ := fcells_get l p hp
    rw [hn] at g
    refine List.ext_getElem? fun i => ?_
    rw [List.getElem?_set]
    split
    · rename_i e
      subst e
      split
      · exact g.symm
      · rename_i e2; rw [List.getElem?_eq_none (by omega)] at g; cases g
    · rfl
  have h1 : (((fcells l).set (p * 2) (.string (bs n))).set (p * 2 + 1) (.string (bs d))) = fcells (l.set p ⟨n, d⟩) := h
  rw [h0] at h1
  exact h1
set_option maxRecDepth 100000 in
theorem ffind_any (l : List PF) (v : Value) (n : List UInt8) (w : World) (hl : SliceIs w v 2 (fcells l)) (hs : l.Pairwise fun a b => ltL a.n b.n = true) (hlen : l.length ≤ 1000000) :
    Calls Tryz.prog 98 #[v, .string (bs n)] w fun e w' => e = .returned (.tuple #[.int .i64 (placeL l n), .bool (fgetL l n).isSome]) ∧ Below w.heap.size w w' := by
  have KEY := Lib.hid (bsf_any l v n w hl hs hlen)
  obtain ⟨s, m, c, rfl, _⟩ := hl.get
  clear hl
  go_enter Tryz.func98, Tryz.ntmps98
  go_wp2_with fail
  refine KEY.out.mono ?_
  rintro e w1 ⟨rfl, b1⟩
  have HB := Lib.hid b1
  clear b1 KEY
  go_wp2_with fail
  go_ret2
  exact ⟨rfl, HB.out⟩
def putF (l : List PF) (n d : List UInt8) : Nat × Int := if (flFault l).1 ≠ 0 then flFault l else flFault (fputL l n d)
theorem putF_ok {l : List PF} {n d : List UInt8} (h : (flFault l).1 = 0) : putF l n d = flFault (fputL l n d) := by unfold putF; rw [if_neg (by simp [h])]
theorem FOk.put {l : List PF} {n d : List UInt8} (h : FOk l) (hn : n.length ≤ maxLen) (hd : d.length ≤ maxLen) : FOk (fputL l n d) := by
  intro f hf
  rcases mem_fputL l n d f hf with rfl | hf
  · exact ⟨hn, hd⟩
  · exact h f hf
set_option maxRecDepth 100000 in
set_option maxHeartbeats 6400000 in
theorem flput_there (E : Nat → Addr) (l : List PF) (v : Value) (n d : List UInt8) (w : World) (hl : SliceIs w v 2 (fcells l)) (hd : FOk l) (hdd : d.length ≤ maxLen) (hnn : n.length ≤ maxLen) (hB : Has E w 2) (hN : Has E w 5) (hF : Has E w 8) (hO : Has E w 9) (hf : FWF l) (hg : (fgetL l n).isSome = true) :
    Calls Tryz.prog 72 #[v, .string (bs n), .string (bs d)] w fun e w' => ∃ r er, e = .returned (.tuple #[r, er]) ∧ FErr E w' er (flFault (fputL l n d)).1 (flFault (fputL l n d)).2 ∧ ((flFault (fputL l n d)).1 = 0 → w'.ownsRow w.heap.size 130 2 r (fputL l n d).length (fcells (fputL l n d))) ∧ ((flFault (fputL l n d)).1 ≠ 0 → r = .slice none 0 0) ∧ Below w.heap.size w w' := by
  have hfew := hf.few
  have CK := Lib.hid (flcheck_any E l v w hl hd (by omega) hB hN hF hO)
  have HF0 := Lib.hid ((flFault_wf l).2 hf)
  have HL := Lib.hid hl
  have HS := Lib.hid hf.sorted
  obtain ⟨d0, hgd⟩ := Option.isSome_iff_exists.1 hg
  obtain ⟨hp, hpn⟩ := place_there hf.sorted hgd
  have PUT := Lib.hid (fputL_there (d := d) hf.sorted hp hpn)
  have SET := Lib.hid (fcells_setd hp n d hpn)
  have HFD := Lib.hid (FOk.put hd hnn hdd)
  have H2 := Lib.hid hB
  have H5 := Lib.hid hN
  have H8 := Lib.hid hF
  have H9 := Lib.hid hO
  have HPL := Lib.hid (show (fputL l n d).length = l.length by rw [PUT.out, List.length_set])
  have HP := Lib.hid hp
  have HG := Lib.hid hg
  generalize hq : placeL l n = p at *
  have HQ := Lib.hid hq
  clear hl hB hN hF hO hf hgd hpn hq hg
  go_enter Tryz.func72, Tryz.ntmps72
  go_wp2_with fail
  refine CK.out.mono ?_
  rintro e w1 ⟨r, rfl, fe, b1⟩
  rw [HF0.out] at fe
  obtain rfl := fe.zero
  have B1 := Lib.hid b1
  clear fe b1 CK
  go_wp2_with fail
  refine (flclone_any l v _ (HL.out.below B1.out) (by omega)).mono ?_
  rintro e w2 ⟨r, rfl, o2, b2⟩
  have O2 := Lib.hid o2
  have B2 := Lib.hid b2
  obtain ⟨va, vc, rfl⟩ := owns_slice o2
  have hva : ∃ g, va = some ⟨g, 0, none⟩ := by
    rcases o2.2 with ⟨h, h'⟩ | ⟨g, _, _, h, _⟩
    · omega
    · cases h; exact ⟨g, rfl⟩
  obtain ⟨g, rfl⟩ := hva
  clear o2 b2
  go_wp2_with fail
  refine (ffind_any l _ n w2 (SliceIs.ownedK O2.out) HS.out (by omega)).mono ?_
  rintro e w3 ⟨rfl, b3⟩
  rw [HQ.out, HG.out]
  have B3 := Lib.hid b3
  have o3 := owns_below O2.out b3
  have O3 := Lib.hid o3
  have HST := Lib.hid ((show w3.ownsRow w1.heap.size 130 2 (.slice (some ⟨g, 0, none⟩) l.length vc) l.length (fcells l) from o3).stored (p * 2 + 1) (.string (bs d)))
  obtain ⟨c0, c1⟩ := fcells_get l p HP.out
  have d0 := o3.cells (g := g) rfl _ _ c0
  have d1 := o3.cells (g := g) rfl _ _ c1
  rw [Addr.add_lit] at d0 d1
  rw [Nat.zero_add] at d0 d1
  have fr : ∀ k, w3.frozen? ⟨g, k, none⟩ = false := by
    rcases o3.2 with ⟨h, _⟩ | ⟨g', _, cur, h, _, hh, _⟩
    · cases h
    · cases h; intro k; simp [World.frozen?, hh]
  have y1 : (0 : Int) ≤ p := by omega
  have y2 : (p : Int).toNat = p := by omega
  have y3 : (p : Int) < l.length := by omega
  clear b3 o3 c0 c1
  go_wp2_with fail
  have B4 := Lib.hid (show Below w.heap.size w (w3.setCell ⟨g, p * 2 + 1, none⟩ (.string (bs d))) from (below_trans' (below_trans' B1.out B2.out) B3.out).setCell (by have h1 := (O2.out.lt g rfl).1; have h2 := B1.out.size; exact Nat.le_trans h2 h1) _)
  have o4 := HST.out.1
  rw [SET.out, ← PUT.out] at o4
  clear HST d0 d1 fr
  generalize w3.setCell ⟨g, p * 2 + 1, none⟩ (.string (bs d)) = W4 at *
  rw [← HPL.out] at o4 ⊢
  have O4 := Lib.hid o4
  have CK2 := Lib.hid (flcheck_any E (fputL l n d) _ W4 (SliceIs.ownedK o4) HFD.out (by have := HPL.out; omega) (H2.out.below B4.out) (H5.out.below B4.out) (H8.out.below B4.out) (H9.out.below B4.out))
  clear o4
  refine CK2.out.mono ?_
  rintro e w5 ⟨r, rfl, fe, b5⟩
  have FE := Lib.hid fe
  have HB := Lib.hid (below_trans' B4.out b5)
  have OF := Lib.hid (owns_mono' (owns_below O4.out b5) B1.out.size)
  by_cases hz : (flFault (fputL l n d)).1 = 0
  · have hr : r = .nilIface := by rw [hz] at fe; exact fe.zero
    subst hr
    have HZ := Lib.hid hz
    clear fe b5 CK2 hz
    go_wp2_with fail
    go_ret2
    exact ⟨_, _, rfl, FE.out, fun _ => OF.out, fun h => absurd HZ.out h, HB.out⟩
  · obtain ⟨t, q, rfl⟩ := fe.some hz
    have HZ := Lib.hid hz
    clear fe b5 CK2 hz
    go_wp2_with fail
    go_ret2
    exact ⟨_, _, rfl, FE.out, fun h => absurd h HZ.out, fun _ => rfl, HB.out⟩
set_option maxRecDepth 100000 in
set_option maxHeartbeats 6400000 in
theorem flput_new (E : Nat → Addr) (l : List PF) (v : Value) (n d : List UInt8) (w : World) (hl : SliceIs w v 2 (fcells l)) (hd : FOk l) (hdd : d.length ≤ maxLen) (hnn : n.length ≤ maxLen) (hB : Has E w 2) (hN : Has E w 5) (hF : Has E w 8) (hO : Has E w 9) (hf : FWF l) (hg : fgetL l n = none) :
    Calls Tryz.prog 72 #[v, .string (bs n), .string (bs d)] w fun e w' => ∃ r er, e = .returned (.tuple #[r, er]) ∧ FErr E w' er (flFault (fputL l n d)).1 (flFault (fputL l n d)).2 ∧ ((flFault (fputL l n d)).1 = 0 → w'.ownsRow w.heap.size 130 2 r (fputL l n d).length (fcells (fputL l n d))) ∧ ((flFault (fputL l n d)).1 ≠ 0 → r = .slice none 0 0) ∧ Below w.heap.size w w' := by
  have hfew := hf.few
  have CK := Lib.hid (flcheck_any E l v w hl hd (by omega) hB hN hF hO)
  have HF0 := Lib.hid ((flFault_wf l).2 hf)
  have HL := Lib.hid hl
  have HS := Lib.hid hf.sorted
  have PUT := Lib.hid (fputL_new (n := n) (d := d) hf.sorted (fun hp => fgetL_none hg _ (List.getElem_mem hp)))
  have HFD := Lib.hid (FOk.put hd hnn hdd)
  have H2 := Lib.hid hB
  have H5 := Lib.hid hN
  have H8 := Lib.hid hF
  have H9 := Lib.hid hO
  have PL' := Lib.hid (place_le l n)
  have HPL := Lib.hid (show (fputL l n d).length = l.length + 1 by have := PL'.out; rw [PUT.out]; simp; omega)
  have HG := Lib.hid (show (fgetL l n).isSome = false by rw [hg]; rfl)
  generalize hq : placeL l n = p at *
  have HQ := Lib.hid hq
  clear hl hB hN hF hO hf hq hg
  go_enter Tryz.func72, Tryz.ntmps72
  go_wp2_with fail
  refine CK.out.mono ?_
  rintro e w1 ⟨r, rfl, fe, b1⟩
  rw [HF0.out] at fe
  obtain rfl := fe.zero
  have B1 := Lib.hid b1
  clear fe b1 CK
  go_wp2_with fail
  refine (flclone_any l v _ (HL.out.below B1.out) (by omega)).mono ?_
  rintro e w2 ⟨r, rfl, o2, b2⟩
  have O2 := Lib.hid o2
  have B2 := Lib.hid b2
  obtain ⟨va, vc, rfl⟩ := owns_slice o2
  clear o2 b2
  go_wp2_with fail
  refine (ffind_any l _ n w2 (SliceIs.ownedK O2.out) HS.out (by omega)).mono ?_
  rintro e w3 ⟨rfl, b3⟩
  rw [HQ.out, HG.out]
  have B3 := Lib.hid (below_trans' (below_trans' B1.out B2.out) b3)
  have O3 := Lib.hid (owns_below O2.out b3)
  have S13 := Lib.hid (show w1.heap.size ≤ w3.heap.size from Nat.le_trans B2.out.size b3.size)
  clear b3
  go_wp2_with fail
  have O3a := Lib.hid (O3.out.alloc (.cells #[.string (bs n), .string (bs d)] 130))
  have INS := Lib.hid (insert_any l ⟨n, d⟩ p w1.heap.size w3.heap.size _ _ O3a.out (heap_alloc_new _ _) (fun h => by have := (O3.out.lt w3.heap.size h).2; omega) PL'.out (by have := S13.out; simp; omega) (by omega))
  have B3a := Lib.hid (B3.out.alloc B3.out.size (.cells #[.string (bs n), .string (bs d)] 130))
  refine INS.out.mono ?_
  rintro e W4 ⟨r, rfl, o4, c4⟩
  rw [← PUT.out, ← HPL.out] at o4
  have B4 := Lib.hid (c4.below B3a.out (fun x hx => by have := (O2.out.lt x hx).1; have := B1.out.size; omega))
  have O4 := Lib.hid o4
  obtain ⟨ra, rc, rfl⟩ := owns_slice o4
  have CK2 := Lib.hid (flcheck_any E (fputL l n d) _ W4 (SliceIs.ownedK o4) HFD.out (by have := HPL.out; omega) (H2.out.below B4.out) (H5.out.below B4.out) (H8.out.below B4.out) (H9.out.below B4.out))
  clear o4 c4 INS
  go_wp2_with fail
  refine CK2.out.mono ?_
  rintro e w5 ⟨r, rfl, fe, b5⟩
  have FE := Lib.hid fe
  have HB := Lib.hid (below_trans' B4.out b5)
  have OF := Lib.hid (owns_mono' (owns_below O4.out b5) B1.out.size)
  by_cases hz : (flFault (fputL l n d)).1 = 0
  · have hr : r = .nilIface := by rw [hz] at fe; exact fe.zero
    subst hr
    have HZ := Lib.hid hz
    clear fe b5 CK2 hz
    go_wp2_with fail
    go_ret2
    exact ⟨_, _, rfl, FE.out, fun _ => OF.out, fun h => absurd HZ.out h, HB.out⟩
  · obtain ⟨t, q, rfl⟩ := fe.some hz
    have HZ := Lib.hid hz
    clear fe b5 CK2 hz
    go_wp2_with fail
    go_ret2
    exact ⟨_, _, rfl, FE.out, fun h => absurd h HZ.out, fun _ => rfl, HB.out⟩
end Go.Proofs.YtppkeophochgiaaGreatDoor
