/- Texts of one proof, one behind the other: NumRW, WText, Aids, AppIs. -/
import Derived.Test.YtppkeophochgiaaGreatDoorB03
import Derived.Test.YtppkeophochgiaaGreatDoorB04
import Derived.Lib.AppendStr
import Derived.OneCell
import Derived.Handy
import Derived.Maps.AppendAt
import Derived.Deep.RegionLaw
/- Contracts of num's Writer and Reader. -/
namespace Go.Proofs.YtppkeophochgiaaGreatDoor
open Go.RowKit

/-- the first error stays -/
def fstErr (c d : Nat) : Nat := if c = 0 then d else c
theorem fstErr_zero (d : Nat) : fstErr 0 d = d := rfl
theorem fstErr_of {c : Nat} (h : c ≠ 0) (d : Nat) : fstErr c d = c := by simp [fstErr, h]
attribute [irreducible] fstErr
/-! ### the writer -/
/-- a writer at block b: what it holds, its error -/
def WAt (E : Nat → Addr) (w : World) (b : Nat) (l : List UInt8) (c : Nat) : Prop :=
  ∃ v, w.heap[b]? = some (.cells #[v, ev E c] 312 (0, 0)) ∧ w.ownsRow (b + 1) 5 1 v l.length (l.map bv)
/-- nothing has turned but block b, and rows of bytes behind it -/
structure KeepW (b : Nat) (w w' : World) : Prop where
  os : w'.os = w.os
  tape : w'.tape = w.tape
  output : w'.output = w.output
  size : w.heap.size ≤ w'.heap.size
  block : ∀ k, k < w.heap.size → k ≠ b → (k < b ∨ ∀ cur, w.heap[k]? ≠ some (.cells cur 5 (0, 0))) → w'.heap[k]? = w.heap[k]?
theorem KeepW.refl (b : Nat) (w : World) : KeepW b w w := ⟨rfl, rfl, rfl, Nat.le_refl _, fun _ _ _ _ => rfl⟩
theorem KeepW.trans {b : Nat} {x y z : World} (h : KeepW b x y) (k : KeepW b y z) : KeepW b x z :=
  ⟨k.os.trans h.os, k.tape.trans h.tape, k.output.trans h.output, Nat.le_trans h.size k.size, fun i hi hne hc => by
    have e := h.block i hi hne hc
    exact (k.block i (Nat.lt_of_lt_of_le hi h.size) hne (by
      rcases hc with hc | hc
      · exact .inl hc
      · exact .inr (by rw [e]; exact hc))).trans e⟩
theorem KeepW.of_below {b : Nat} {w w' : World} (h : Below w.heap.size w w') : KeepW b w w' := ⟨h.os, h.tape, h.output, h.size, fun k hk _ _ => h.block k hk⟩
theorem KeepW.drewN {b : Nat} {w w' : World} (h : KeepW b w w') (n : Nat) : KeepW b w (w'.drewN n) := ⟨h.os, h.tape, h.output, h.size, h.block⟩
/-- old memory is as it was -/
theorem KeepW.old {b B : Nat} {x w w' : World} (h : KeepW b w w') (hx : Below B x w) (hb : B ≤ b) (hw : b < w.heap.size) : Below B x w' :=
  ⟨h.os.trans hx.os, h.tape.trans hx.tape, h.output.trans hx.output, Nat.le_trans hx.size h.size, fun k hk => (h.block k (by omega) (by omega) (.inl (by omega))).trans (hx.block k hk)⟩
theorem KeepW.set {b k : Nat} (w : World) (v : Value) : KeepW b w (w.setCell ⟨b, k, none⟩ v) :=
  ⟨rfl, rfl, rfl, by simp [World.setCell], fun j _ hne _ => Below.heap_setCell w ⟨b, k, none⟩ v j (fun e => hne e)⟩
theorem KeepW.grown {b : Nat} {w w' : World} {v : Value} {n : Nat} {xs : List Value} (ho : w.ownsRow (b + 1) 5 1 v n xs) (h : w.grownBy w' v.ownBlock) : KeepW b w w' :=
  ⟨h.os, h.tape, h.output, h.size, fun k hk _ hc => h.block k hk (fun e => by
    have hl := ho.lt k e.symm
    rcases hc with hc | hc
    · omega
    · obtain ⟨_, h2⟩ := ho
      rcases h2 with ⟨rfl, _⟩ | ⟨g, cap, cur, rfl, _, hh, _⟩
      · simp [Value.ownBlock] at e
      · simp [Value.ownBlock] at e; subst e; exact hc cur hh)⟩

/-- what lies at block b, its error any value -/
def WRaw (w : World) (b : Nat) (v x : Value) (l : List UInt8) : Prop := w.heap[b]? = some (.cells #[v, x] 312 (0, 0)) ∧ w.ownsRow (b + 1) 5 1 v l.length (l.map bv)
theorem WRaw.c0 {w : World} {b : Nat} {v x : Value} {l : List UInt8} (h : WRaw w b v x l) : w.cell? ⟨b, 0, none⟩ = some v := by have := h.1; simp [World.cell?, this]
theorem WRaw.c1 {w : World} {b : Nat} {v x : Value} {l : List UInt8} (h : WRaw w b v x l) : w.cell? ⟨b, 1, none⟩ = some x := by have := h.1; simp [World.cell?, this]
theorem WRaw.fz {w : World} {b : Nat} {v x : Value} {l : List UInt8} (h : WRaw w b v x l) (k : Nat) : w.frozen? ⟨b, k, none⟩ = false := by have := h.1; simp [World.frozen?, this]
theorem WRaw.lt {w : World} {b : Nat} {v x : Value} {l : List UInt8} (h : WRaw w b v x l) : b < w.heap.size := lt_of_block h.1
theorem WRaw.s1 {w : World} {b : Nat} {v x : Value} {l : List UInt8} (h : WRaw w b v x l) (y : Value) : WRaw (w.setCell ⟨b, 1, none⟩ y) b v y l :=
  ⟨set_at h.1, ownsRow_setCell_below h.2 (Nat.lt_succ_self b) y⟩
theorem WRaw.below {w w' : World} {b : Nat} {v x : Value} {l : List UInt8} (h : WRaw w b v x l) (hb : Below w.heap.size w w') : WRaw w' b v x l :=
  ⟨(hb.block b h.lt).trans h.1, h.2.kept (grownBy_below (r := none) hb) (by
    rcases v.ownBlock with _ | j
    · exact .inl rfl
    · exact .inr (by simp))⟩
theorem WRaw.grown {w w' : World} {b : Nat} {v x : Value} {l : List UInt8} (h : WRaw w b v x l) (hg : w.grownBy w' v.ownBlock) : w'.heap[b]? = some (.cells #[v, x] 312 (0, 0)) :=
  (hg.block b h.lt (fun e => by have := h.2.lt b e.symm; omega)).trans h.1
theorem WRaw.fzg {w w' : World} {b : Nat} {v x : Value} {l : List UInt8} (h : WRaw w b v x l) (hg : w.grownBy w' v.ownBlock) : w'.frozen? ⟨b, 0, none⟩ = false := by simp [World.frozen?, h.grown hg]
theorem WRaw.c0g {w w' : World} {b : Nat} {v x : Value} {l : List UInt8} (h : WRaw w b v x l) (hg : w.grownBy w' v.ownBlock) : w'.cell? ⟨b, 0, none⟩ = some v := by simp [World.cell?, h.grown hg]
theorem WRaw.tail {w w' : World} {b : Nat} {v v' x : Value} {l m : List UInt8} (h : WRaw w b v x l) (h1 : w'.ownsRow (b + 1) 5 1 v' (l.length + (bs m).size) (l.map bv ++ Lib.strCells (bs m))) (hg : w.grownBy w' v.ownBlock) :
    WRaw (w'.setCell ⟨b, 0, none⟩ v') b v' x (l ++ m) ∧ KeepW b w (w'.setCell ⟨b, 0, none⟩ v') := by
  have hb : w'.heap[b]? = some (.cells #[v, x] 312 (0, 0)) := (hg.block b h.lt (fun e => by have := h.2.lt b e.symm; omega)).trans h.1
  refine ⟨⟨set_at hb, ?_⟩, (KeepW.grown h.2 hg).trans (KeepW.set w' v')⟩
  have := ownsRow_setCell_below h1 (a := ⟨b, 0, none⟩) (Nat.lt_succ_self b) v'
  rw [strCells_bs, bs_size] at this
  simpa using this


theorem putL_len (n : Int) : (putL n).length ≤ 7 := by
  by_cases h : 0 ≤ n ∧ n ≤ 1099511627776
  · rw [(putC_yes h).2]; exact num_len _
  · rw [(putC_no h).2]; simp
theorem ptL_len (l : List UInt8) : (ptL l).length ≤ 20007 := by
  by_cases h : l.length ≤ 20000
  · rw [(ptC_yes h).2]; have := num_len l.length; simp; omega
  · rw [(ptC_no h).2]; simp

set_option maxRecDepth 100000 in
set_option maxHeartbeats 1600000 in
theorem wnum_any (E : Nat → Addr) (b : Nat) (l : List UInt8) (c : Nat) (n : Int) (w : World) (hl : l.length ≤ 1000000000) (h : WAt E w b l c) (hB : Has E w 2) :
    Calls Tryz.prog 247 #[.pointer (some ⟨b, 0, none⟩), .int .i64 n] w fun e w' => e = .returned (.tuple #[]) ∧ WAt E w' b (l ++ putL n) (fstErr c (putC n)) ∧ KeepW b w w' := by
  obtain ⟨i0, hi, hz0, hz1, hz2⟩ := info_parts infoU8
  obtain ⟨v, hv⟩ := h
  have hv : WRaw w b v (ev E c) l := hv
  have hpl := putL_len n
  have hp := put_any E n w hB
  have HPL := Lib.hid hpl
  have HL := Lib.hid hl
  have HRES : Hid (∀ w' v' x c', WRaw w' b v' x (l ++ putL n) → x = ev E c' → WAt E w' b (l ++ putL n) c') := fun w' v' x c' h e => ⟨v', by rw [← e]; exact h⟩
  generalize putL n = m at *
  generalize putC n = d at *
  have HA1 : Hid (l.length + (bs m).size ≤ maxLen) := by show _ ≤ _; rw [bs_size]; unfold maxLen; omega
  have HA2 : Hid (l.length + (bs m).size ≤ 140737488355328) := by show _ ≤ _; rw [bs_size]; omega
  have HP := Lib.hid hp
  have HV := Lib.hid hv
  clear hp hv hB hpl hl
  by_cases hc : c = 0
  · subst hc
    rw [ev_zero] at HV
    by_cases hd : d = 0
    · subst hd
      rw [ev_zero] at HP
      go_enter Tryz.func247, Tryz.ntmps247
      go_wp2_with (first | (go_at_call 264; refine HP.out.mono ?_; rintro e w1 ⟨rfl, b1⟩; have V1 := HV.out.below b1; have c1 := V1.c1; have f1 := V1.fz 1; have WV := V1.s1 .nilIface; have c0 := WV.c0) | (at_builtin; refine Lib.wpList_append_own_string _ rfl _ _ 107 9 rfl (b + 1) 5 i0 Tryz.underlying107 Tryz.underlying9 hi hz0 hz1 hz2 _ _ _ rfl WV.2 (bs m) rfl HA1.out HA2.out WV.lt ?_; intro v' w3 hown' hgrow _; obtain ⟨A', q', rfl⟩ := owns_sl hown'; have T := WV.tail hown' hgrow; have fb := WV.fzg hgrow; have cb := WV.c0g hgrow))
      rw [bs_size] at T
      go_returns
      exact ⟨rfl, HRES.out _ _ _ _ T.1 (by rw [fstErr_zero, ev_zero]), (KeepW.of_below b1).trans ((KeepW.set _ _).trans T.2)⟩
    · have HD := Lib.hid hd
      have hev := ev_is E hd
      rw [hev] at HP
      have HEV := Lib.hid hev
      unfold errv at HP
      unfold errv at HEV
      clear hd hev
      go_enter Tryz.func247, Tryz.ntmps247
      go_wp2_with (first | (go_at_call 264; refine HP.out.mono ?_; rintro e w1 ⟨rfl, b1⟩; have V1 := HV.out.below b1; have c1 := V1.c1; have f1 := V1.fz 1; have WV := V1.s1 (.iface 345 (.pointer (some (E d)))); have c0 := WV.c0) | (at_builtin; refine Lib.wpList_append_own_string _ rfl _ _ 107 9 rfl (b + 1) 5 i0 Tryz.underlying107 Tryz.underlying9 hi hz0 hz1 hz2 _ _ _ rfl WV.2 (bs m) rfl HA1.out HA2.out WV.lt ?_; intro v' w3 hown' hgrow _; obtain ⟨A', q', rfl⟩ := owns_sl hown'; have T := WV.tail hown' hgrow; have fb := WV.fzg hgrow; have cb := WV.c0g hgrow))
      rw [bs_size] at T
      go_returns
      exact ⟨rfl, HRES.out _ _ _ _ T.1 (by rw [fstErr_zero, HEV.out]), (KeepW.of_below b1).trans ((KeepW.set _ _).trans T.2)⟩
  · have HC := Lib.hid hc
    have hev := ev_is E hc
    rw [hev] at HV
    unfold errv at HV
    have HEV := Lib.hid hev
    unfold errv at HEV
    clear hc hev
    go_enter Tryz.func247, Tryz.ntmps247
    go_wp2_with (first | (go_at_call 264; refine HP.out.mono ?_; rintro e w1 ⟨rfl, b1⟩; have WV := HV.out.below b1; have c1 := WV.c1; have c0 := WV.c0) | (at_builtin; refine Lib.wpList_append_own_string _ rfl _ _ 107 9 rfl (b + 1) 5 i0 Tryz.underlying107 Tryz.underlying9 hi hz0 hz1 hz2 _ _ _ rfl WV.2 (bs m) rfl HA1.out HA2.out WV.lt ?_; intro v' w3 hown' hgrow _; obtain ⟨A', q', rfl⟩ := owns_sl hown'; have T := WV.tail hown' hgrow; have fb := WV.fzg hgrow; have cb := WV.c0g hgrow))
    rw [bs_size] at T
    go_returns
    exact ⟨rfl, HRES.out _ _ _ _ T.1 (by rw [fstErr_of HC.out, HEV.out]), (KeepW.of_below b1).trans T.2⟩

set_option maxRecDepth 100000 in
set_option maxHeartbeats 1600000 in
theorem wtext_any (E : Nat → Addr) (b : Nat) (l : List UInt8) (c : Nat) (s : ByteArray) (w : World) (hs : s.size ≤ 1000000000) (hl : l.length ≤ 1000000000) (h : WAt E w b l c) (hB : Has E w 2) :
    Calls Tryz.prog 226 #[.pointer (some ⟨b, 0, none⟩), .string s] w fun e w' => e = .returned (.tuple #[]) ∧ WAt E w' b (l ++ ptL s.data.toList) (fstErr c (ptC s.data.toList)) ∧ KeepW b w w' := by
  obtain ⟨i0, hi, hz0, hz1, hz2⟩ := info_parts infoU8
  obtain ⟨v, hv⟩ := h
  have hv : WRaw w b v (ev E c) l := hv
  have hpl := ptL_len s.data.toList
  have hp := ptext_any E s w hs hB
  have HPL := Lib.hid hpl
  have HL := Lib.hid hl
  have HRES : Hid (∀ w' v' x c', WRaw w' b v' x (l ++ ptL s.data.toList) → x = ev E c' → WAt E w' b (l ++ ptL s.data.toList) c') := fun w' v' x c' h e => ⟨v', by rw [← e]; exact h⟩
  generalize ptL s.data.toList = m at *
  generalize ptC s.data.toList = d at *
  have HA1 : Hid (l.length + (bs m).size ≤ maxLen) := by show _ ≤ _; rw [bs_size]; unfold maxLen; omega
  have HA2 : Hid (l.length + (bs m).size ≤ 140737488355328) := by show _ ≤ _; rw [bs_size]; omega
  have HP := Lib.hid hp
  have HV := Lib.hid hv
  clear hp hv hB hpl hl
  by_cases hc : c = 0
  · subst hc
    rw [ev_zero] at HV
    by_cases hd : d = 0
    · subst hd
      rw [ev_zero] at HP
      go_enter Tryz.func226, Tryz.ntmps226
      go_wp2_with (first | (go_at_call 252; refine HP.out.mono ?_; rintro e w1 ⟨rfl, b1⟩; have V1 := HV.out.below b1; have c1 := V1.c1; have f1 := V1.fz 1; have WV := V1.s1 .nilIface; have c0 := WV.c0) | (at_builtin; refine Lib.wpList_append_own_string _ rfl _ _ 107 9 rfl (b + 1) 5 i0 Tryz.underlying107 Tryz.underlying9 hi hz0 hz1 hz2 _ _ _ rfl WV.2 (bs m) rfl HA1.out HA2.out WV.lt ?_; intro v' w3 hown' hgrow _; obtain ⟨A', q', rfl⟩ := owns_sl hown'; have T := WV.tail hown' hgrow; have fb := WV.fzg hgrow; have cb := WV.c0g hgrow))
      rw [bs_size] at T
      go_returns
      exact ⟨rfl, HRES.out _ _ _ _ T.1 (by rw [fstErr_zero, ev_zero]), (KeepW.of_below b1).trans ((KeepW.set _ _).trans T.2)⟩
    · have HD := Lib.hid hd
      have hev := ev_is E hd
      rw [hev] at HP
      have HEV := Lib.hid hev
      unfold errv at HP
      unfold errv at HEV
      clear hd hev
      go_enter Tryz.func226, Tryz.ntmps226
      go_wp2_with (first | (go_at_call 252; refine HP.out.mono ?_; rintro e w1 ⟨rfl, b1⟩; have V1 := HV.out.below b1; have c1 := V1.c1; have f1 := V1.fz 1; have WV := V1.s1 (.iface 345 (.pointer (some (E d)))); have c0 := WV.c0) | (at_builtin; refine Lib.wpList_append_own_string _ rfl _ _ 107 9 rfl (b + 1) 5 i0 Tryz.underlying107 Tryz.underlying9 hi hz0 hz1 hz2 _ _ _ rfl WV.2 (bs m) rfl HA1.out HA2.out WV.lt ?_; intro v' w3 hown' hgrow _; obtain ⟨A', q', rfl⟩ := owns_sl hown'; have T := WV.tail hown' hgrow; have fb := WV.fzg hgrow; have cb := WV.c0g hgrow))
      rw [bs_size] at T
      go_returns
      exact ⟨rfl, HRES.out _ _ _ _ T.1 (by rw [fstErr_zero, HEV.out]), (KeepW.of_below b1).trans ((KeepW.set _ _).trans T.2)⟩
  · have HC := Lib.hid hc
    have hev := ev_is E hc
    rw [hev] at HV
    unfold errv at HV
    have HEV := Lib.hid hev
    unfold errv at HEV
    clear hc hev
    go_enter Tryz.func226, Tryz.ntmps226
    go_wp2_with (first | (go_at_call 252; refine HP.out.mono ?_; rintro e w1 ⟨rfl, b1⟩; have WV := HV.out.below b1; have c1 := WV.c1; have c0 := WV.c0) | (at_builtin; refine Lib.wpList_append_own_string _ rfl _ _ 107 9 rfl (b + 1) 5 i0 Tryz.underlying107 Tryz.underlying9 hi hz0 hz1 hz2 _ _ _ rfl WV.2 (bs m) rfl HA1.out HA2.out WV.lt ?_; intro v' w3 hown' hgrow _; obtain ⟨A', q', rfl⟩ := owns_sl hown'; have T := WV.tail hown' hgrow; have fb := WV.fzg hgrow; have cb := WV.c0g hgrow))
    rw [bs_size] at T
    go_returns
    exact ⟨rfl, HRES.out _ _ _ _ T.1 (by rw [fstErr_of HC.out, HEV.out]), (KeepW.of_below b1).trans T.2⟩

/-- what a writer gives at the end -/
def doneL (c : Nat) (l : List UInt8) : List UInt8 := if c = 0 then l else []
theorem doneL_zero (l : List UInt8) : doneL 0 l = l := rfl
theorem doneL_err {c : Nat} (h : c ≠ 0) (l : List UInt8) : doneL c l = [] := by simp [doneL, h]
attribute [irreducible] doneL
set_option maxRecDepth 100000 in
theorem wdone_any (E : Nat → Addr) (b : Nat) (l : List UInt8) (c : Nat) (w : World) (hl : c = 0 → 0 < l.length) (h : WAt E w b l c) :
    Calls Tryz.prog 227 #[.pointer (some ⟨b, 0, none⟩)] w fun e w' => e = .returned (.tuple #[.string (bs (doneL c l)), ev E c]) ∧ Drew w w' := by
  obtain ⟨v, hv⟩ := h
  have hv : WRaw w b v (ev E c) l := hv
  have c0 := hv.c0
  have c1 := hv.c1
  by_cases hc : c = 0
  · subst hc
    rw [ev_zero] at c1
    have hown := hv.2
    have hpos := hl rfl
    have hD := doneL_zero l
    have HD := Lib.hid hD
    have HZ := Lib.hid (ev_zero E)
    obtain ⟨g, cap, rfl, _, _, _, _, _, _⟩ := owns_open hown (by omega)
    have hcv := conv_owned (T := 107) (D := 9) hown Tryz.underlying107 Tryz.underlying5 Tryz.underlying9
    clear hown hpos hl hD hv
    go_enter Tryz.func227, Tryz.ntmps227
    go_wp2_with fail
    go_ret2
    exact ⟨ret2 (by rw [HD.out]; rfl) (by rw [HZ.out]; rfl), Drew.refl _⟩
  · have hev := ev_is E hc
    rw [hev] at c1
    unfold errv at c1
    have HD := Lib.hid (doneL_err hc l)
    have HEV := Lib.hid hev
    unfold errv at HEV
    clear hev hc hl hv
    go_enter Tryz.func227, Tryz.ntmps227
    go_wp2_with fail
    go_quiet (fail)
    go_wp2_with fail
    go_ret2
    exact ⟨ret2 (by rw [HD.out, bs_nil]; rfl) (by rw [HEV.out]; rfl), Drew.drewN _ _⟩

/-! ### the reader -/
def RAt (E : Nat → Addr) (w : World) (b : Nat) (l : List UInt8) (c : Nat) : Prop := w.heap[b]? = some (.cells #[.string (bs l), ev E c] 304 (0, 0))
theorem RAt.lt {E : Nat → Addr} {w : World} {b : Nat} {l : List UInt8} {c : Nat} (h : RAt E w b l c) : b < w.heap.size := lt_of_block h
theorem RAt.cs {E : Nat → Addr} {w : World} {b : Nat} {l : List UInt8} {c : Nat} (h : RAt E w b l c) : w.cell? ⟨b, 0, none⟩ = some (.string (bs l)) ∧ w.cell? ⟨b, 1, none⟩ = some (ev E c) := by unfold RAt at h; simp [World.cell?, h]
theorem RAt.fz {E : Nat → Addr} {w : World} {b : Nat} {l : List UInt8} {c : Nat} (h : RAt E w b l c) (k : Nat) : w.frozen? ⟨b, k, none⟩ = false := by unfold RAt at h; simp [World.frozen?, h]
theorem RAt.set {E : Nat → Addr} {w : World} {b : Nat} {l : List UInt8} {c : Nat} (h : RAt E w b l c) (m : List UInt8) (d : Nat) (x : Value) (hx : x = ev E d) :
    RAt E ((w.setCell ⟨b, 0, none⟩ (.string (bs m))).setCell ⟨b, 1, none⟩ x) b m d := by subst hx; exact set_at (set_at h)
theorem RAt.set1 {E : Nat → Addr} {w : World} {b : Nat} {l : List UInt8} {c : Nat} (h : RAt E w b l c) (d : Nat) (x : Value) (hx : x = ev E d) :
    RAt E (w.setCell ⟨b, 1, none⟩ x) b l d := by subst hx; exact set_at h
theorem RAt.below {E : Nat → Addr} {w w' : World} {b : Nat} {l : List UInt8} {c : Nat} (h : RAt E w b l c) (hb : Below w.heap.size w w') : RAt E w' b l c := (hb.block b h.lt).trans h
theorem RAt.grown {E : Nat → Addr} {w w' : World} {b : Nat} {l : List UInt8} {c : Nat} {r : Option Nat} (h : RAt E w b l c) (hg : w.grownBy w' r) (hr : some b ≠ r) : RAt E w' b l c := (hg.block b h.lt hr).trans h
theorem RAt.drewN {E : Nat → Addr} {w : World} {b : Nat} {l : List UInt8} {c : Nat} (h : RAt E w b l c) (n : Nat) : RAt E (w.drewN n) b l c := h

/-- a number more of a reader: what it is, what is left, the error -/
def rnN (l : List UInt8) (c : Nat) : Nat := if c = 0 then gN l else 0
def rnR (l : List UInt8) (c : Nat) : List UInt8 := if c = 0 then gR l else l
def rnC (l : List UInt8) (c : Nat) : Nat := if c = 0 then gC l else c
def rtT (l : List UInt8) (c : Nat) : List UInt8 := if c = 0 then tT l else []
def rtR (l : List UInt8) (c : Nat) : List UInt8 := if c = 0 then tR l else l
def rtC (l : List UInt8) (c : Nat) : Nat := if c = 0 then tC l else c
def rEnd (l : List UInt8) (c : Nat) : Nat := if c = 0 ∧ l ≠ [] then 1 else c
theorem rn_zero (l : List UInt8) : rnN l 0 = gN l ∧ rnR l 0 = gR l ∧ rnC l 0 = gC l := ⟨rfl, rfl, rfl⟩
theorem rn_err (l : List UInt8) {c : Nat} (h : c ≠ 0) : rnN l c = 0 ∧ rnR l c = l ∧ rnC l c = c := by simp [rnN, rnR, rnC, h]
theorem rt_zero (l : List UInt8) : rtT l 0 = tT l ∧ rtR l 0 = tR l ∧ rtC l 0 = tC l := ⟨rfl, rfl, rfl⟩
theorem rt_err (l : List UInt8) {c : Nat} (h : c ≠ 0) : rtT l c = [] ∧ rtR l c = l ∧ rtC l c = c := by simp [rtT, rtR, rtC, h]
theorem rEnd_some {l : List UInt8} (h : l ≠ []) : rEnd l 0 = 1 := by simp [rEnd, h]
theorem rEnd_nil : rEnd [] 0 = 0 := by simp [rEnd]
theorem rEnd_err (l : List UInt8) {c : Nat} (h : c ≠ 0) : rEnd l c = c := by simp [rEnd, h]
theorem rnR_len (l : List UInt8) (c : Nat) : (rnR l c).length ≤ l.length := by have := gR_len l; unfold rnR; split <;> omega
theorem rtR_len (l : List UInt8) (c : Nat) : (rtR l c).length ≤ l.length := by have := (tT_len l).2.2; unfold rtR; split <;> omega
theorem rnN_le (l : List UInt8) (c : Nat) : rnN l c ≤ 1099511627776 := by have := gN_le l; unfold rnN; split <;> omega
attribute [irreducible] rnN rnR rnC rtT rtR rtC rEnd
set_option maxRecDepth 100000 in
set_option maxHeartbeats 1600000 in
theorem rnum_any (E : Nat → Addr) (b : Nat) (l : List UInt8) (c : Nat) (w : World) (hl : l.length ≤ 1000000000) (h : RAt E w b l c) (hT : Has E w 1) (hB : Has E w 2) :
    Calls Tryz.prog 219 #[.pointer (some ⟨b, 0, none⟩)] w fun e w' => e = .returned (.int .i64 (rnN l c)) ∧ RAt E w' b (rnR l c) (rnC l c) ∧ w.grownBy w' (some b) := by
  obtain ⟨c0, c1⟩ := h.cs
  by_cases hc : c = 0
  · subst hc
    rw [ev_zero] at c1
    have GET := get_any E (bs l) w (by simpa using hl) hT hB
    rw [bs_list] at GET
    obtain ⟨h1, h2, h3⟩ := rn_zero l
    have F : ∀ n x, x = ev E (gC l) → RAt E (((w.drewN n).setCell ⟨b, 0, none⟩ (.string (bs (gR l)))).setCell ⟨b, 1, none⟩ x) b (gR l) (gC l) ∧ w.grownBy (((w.drewN n).setCell ⟨b, 0, none⟩ (.string (bs (gR l)))).setCell ⟨b, 1, none⟩ x) (some b) := fun n x hx =>
      ⟨(h.drewN n).set _ _ x hx, grownBy_trans (grownBy_trans (grownBy_drewN (World.grownBy.refl w _) n) (grownBy_set _ _ _ _)) (grownBy_set _ _ _ _)⟩
    rw [h1, h2, h3]
    clear h1 h2 h3
    have f0 := h.fz 0
    have f1 := h.fz 1
    have FF := Lib.hid F
    clear F h hl hT hB
    generalize gN l = n at *
    generalize gR l = r at *
    by_cases hd : gC l = 0
    · rw [hd, ev_zero] at GET
      have HEV := Lib.hid (show Value.nilIface = ev E (gC l) by rw [hd, ev_zero])
      have HG := Lib.hid GET
      clear GET hd
      go_enter Tryz.func219, Tryz.ntmps219
      go_wp2_with (go_at_call 248; refine HG.out.mono ?_; rintro e w1 ⟨rfl, b1⟩; obtain ⟨m, rfl⟩ := b1)
      go_ret
      exact ⟨rfl, FF.out _ _ HEV.out⟩
    · have hev := ev_is E hd
      rw [hev] at GET
      unfold errv at GET
      have HEV := Lib.hid hev.symm
      unfold errv at HEV
      have HG := Lib.hid GET
      clear GET hd hev
      go_enter Tryz.func219, Tryz.ntmps219
      go_wp2_with (go_at_call 248; refine HG.out.mono ?_; rintro e w1 ⟨rfl, b1⟩; obtain ⟨m, rfl⟩ := b1)
      go_ret
      exact ⟨rfl, FF.out _ _ HEV.out⟩
  · obtain ⟨h1, h2, h3⟩ := rn_err l hc
    rw [h1, h2, h3]
    rw [ev_is E hc] at c1
    unfold errv at c1
    have H := Lib.hid h
    clear h1 h2 h3 hc h
    go_enter Tryz.func219, Tryz.ntmps219
    go_wp2_with fail
    go_ret
    exact ⟨rfl, H.out, World.grownBy.refl _ _⟩
set_option maxRecDepth 100000 in
set_option maxHeartbeats 1600000 in
theorem rtext_any (E : Nat → Addr) (b : Nat) (l : List UInt8) (c : Nat) (w : World) (hl : l.length ≤ 1000000000) (h : RAt E w b l c) (hT : Has E w 1) (hB : Has E w 2) :
    Calls Tryz.prog 220 #[.pointer (some ⟨b, 0, none⟩)] w fun e w' => e = .returned (.string (bs (rtT l c))) ∧ RAt E w' b (rtR l c) (rtC l c) ∧ w.grownBy w' (some b) := by
  obtain ⟨c0, c1⟩ := h.cs
  by_cases hc : c = 0
  · subst hc
    rw [ev_zero] at c1
    have GET := gtext_any E (bs l) w (by simpa using hl) hT hB
    rw [bs_list] at GET
    obtain ⟨h1, h2, h3⟩ := rt_zero l
    have F : ∀ n x, x = ev E (tC l) → RAt E (((w.drewN n).setCell ⟨b, 0, none⟩ (.string (bs (tR l)))).setCell ⟨b, 1, none⟩ x) b (tR l) (tC l) ∧ w.grownBy (((w.drewN n).setCell ⟨b, 0, none⟩ (.string (bs (tR l)))).setCell ⟨b, 1, none⟩ x) (some b) := fun n x hx =>
      ⟨(h.drewN n).set _ _ x hx, grownBy_trans (grownBy_trans (grownBy_drewN (World.grownBy.refl w _) n) (grownBy_set _ _ _ _)) (grownBy_set _ _ _ _)⟩
    rw [h1, h2, h3]
    clear h1 h2 h3
    have f0 := h.fz 0
    have f1 := h.fz 1
    have FF := Lib.hid F
    clear F h hl hT hB
    generalize tT l = n at *
    generalize tR l = r at *
    by_cases hd : tC l = 0
    · rw [hd, ev_zero] at GET
      have HEV := Lib.hid (show Value.nilIface = ev E (tC l) by rw [hd, ev_zero])
      have HG := Lib.hid GET
      clear GET hd
      go_enter Tryz.func220, Tryz.ntmps220
      go_wp2_with (go_at_call 249; refine HG.out.mono ?_; rintro e w1 ⟨rfl, b1⟩; obtain ⟨m, rfl⟩ := b1)
      go_ret
      exact ⟨rfl, FF.out _ _ HEV.out⟩
    · have hev := ev_is E hd
      rw [hev] at GET
      unfold errv at GET
      have HEV := Lib.hid hev.symm
      unfold errv at HEV
      have HG := Lib.hid GET
      clear GET hd hev
      go_enter Tryz.func220, Tryz.ntmps220
      go_wp2_with (go_at_call 249; refine HG.out.mono ?_; rintro e w1 ⟨rfl, b1⟩; obtain ⟨m, rfl⟩ := b1)
      go_ret
      exact ⟨rfl, FF.out _ _ HEV.out⟩
  · obtain ⟨h1, h2, h3⟩ := rt_err l hc
    rw [h1, h2, h3]
    rw [ev_is E hc] at c1
    unfold errv at c1
    have H := Lib.hid h
    clear h1 h2 h3 hc h
    go_enter Tryz.func220, Tryz.ntmps220
    go_wp2_with fail
    go_ret
    exact ⟨by rw [bs_nil]; rfl, H.out, World.grownBy.refl _ _⟩
set_option maxRecDepth 100000 in
set_option maxHeartbeats 1600000 in
theorem rend_any (E : Nat → Addr) (b : Nat) (l : List UInt8) (c : Nat) (w : World) (h : RAt E w b l c) (hT : Has E w 1) :
    Calls Tryz.prog 221 #[.pointer (some ⟨b, 0, none⟩)] w fun e w' => e = .returned (ev E (rEnd l c)) ∧ RAt E w' b l (rEnd l c) ∧ w.grownBy w' (some b) := by
  obtain ⟨c0, c1⟩ := h.cs
  have t1 : w.cell? ⟨1, 0, none⟩ = some (errv (E 1)) := hT
  have f1 := h.fz 1
  have H := Lib.hid h
  have HT := Lib.hid hT
  clear h hT
  by_cases hc : c = 0
  · subst hc
    rw [ev_zero] at c1
    by_cases hl : l = []
    · subst hl
      rw [rEnd_nil, ev_zero]
      have hb0 : (bs []).toList = [] := by simp [ByteArray.toList_eq]
      go_enter Tryz.func221, Tryz.ntmps221
      go_wp2_with fail
      go_ret
      exact ⟨rfl, H.out, World.grownBy.refl _ _⟩
    · have hb0 : ((bs l).toList == []) = false := by simp [ByteArray.toList_eq, hl]
      have hb1 : (bs l).toList.isEmpty = false := by simp [ByteArray.toList_eq, hl]
      rw [rEnd_some hl]
      have HEV := Lib.hid (ev_is E (c := 1) (by decide))
      unfold errv at t1
      have F := Lib.hid (H.out.set1 1 (errv (E 1)) (ev_is E (by decide)).symm)
      rw [HEV.out]
      unfold errv at F ⊢
      clear hl
      go_enter Tryz.func221, Tryz.ntmps221
      go_wp2_with fail
      go_ret
      exact ⟨rfl, F.out, grownBy_set _ _ _ _⟩
  · rw [rEnd_err l hc]
    have HEV := Lib.hid (ev_is E hc)
    rw [HEV.out] at c1 ⊢
    unfold errv at c1 ⊢
    clear hc
    go_enter Tryz.func221, Tryz.ntmps221
    go_wp2_with fail
    go_ret
    exact ⟨rfl, H.out, World.grownBy.refl _ _⟩
end Go.Proofs.YtppkeophochgiaaGreatDoor
/- Writers with no error: what is written. -/
namespace Go.Proofs.YtppkeophochgiaaGreatDoor
open Go.RowKit

theorem wnum_ok (E : Nat → Addr) (b : Nat) (l : List UInt8) (n : Int) (w : World) (hl : l.length ≤ 1000000000) (h : WAt E w b l 0) (hB : Has E w 2) (hn : 0 ≤ n) (hn2 : n ≤ 1099511627776) :
    Calls Tryz.prog 247 #[.pointer (some ⟨b, 0, none⟩), .int .i64 n] w fun e w' => e = .returned (.tuple #[]) ∧ WAt E w' b (l ++ num n.toNat) 0 ∧ KeepW b w w' := by
  have := wnum_any E b l 0 n w hl h hB
  rw [(putC_yes ⟨hn, hn2⟩).1, (putC_yes ⟨hn, hn2⟩).2, fstErr_zero] at this
  exact this
theorem wtext_ok (E : Nat → Addr) (b : Nat) (l : List UInt8) (s : ByteArray) (w : World) (hl : l.length ≤ 1000000000) (h : WAt E w b l 0) (hB : Has E w 2) (hs : s.size ≤ 20000) :
    Calls Tryz.prog 226 #[.pointer (some ⟨b, 0, none⟩), .string s] w fun e w' => e = .returned (.tuple #[]) ∧ WAt E w' b (l ++ (num s.size ++ s.data.toList)) 0 ∧ KeepW b w w' := by
  have := wtext_any E b l 0 s w (by omega) hl h hB
  have e : s.data.toList.length = s.size := by simp
  rw [(ptC_yes (by omega)).1, (ptC_yes (by omega)).2, fstErr_zero, e] at this
  exact this
theorem KeepW.obj {b g : Nat} {w w' : World} {cs : Array Value} {t : TypeId} {fr : Nat × Nat} (h : KeepW b w w') (hg : w.heap[g]? = some (.cells cs t fr)) (hne : g ≠ b) (ht : t ≠ 5) : w'.heap[g]? = some (.cells cs t fr) :=
  (h.block g (lt_of_block hg) hne (.inr (fun cur e => by rw [hg] at e; injection e with e; injection e with _ e _; exact ht e))).trans hg
theorem WAt.lt {E : Nat → Addr} {w : World} {b : Nat} {l : List UInt8} {c : Nat} (h : WAt E w b l c) : b < w.heap.size := by obtain ⟨v, h1, _⟩ := h; exact lt_of_block h1
theorem WAt.below {E : Nat → Addr} {w w' : World} {b : Nat} {l : List UInt8} {c : Nat} (h : WAt E w b l c) (hb : Below w.heap.size w w') : WAt E w' b l c := by
  obtain ⟨v, h⟩ := h
  exact ⟨v, WRaw.below (x := ev E c) h hb⟩
theorem WAt.new (E : Nat → Addr) (w : World) : WAt E (w.alloc (.cells #[.slice none 0 0, .nilIface] 312)) w.heap.size [] 0 :=
  ⟨.slice none 0 0, by rw [ev_zero]; exact heap_alloc_new _ _, World.ownsRow_nil _ _ _ _⟩
theorem below_alloc' (w : World) (o : Obj) : Below w.heap.size w (w.alloc o) := (Below.refl _ w).alloc (Nat.le_refl _) o

end Go.Proofs.YtppkeophochgiaaGreatDoor
/- Readers: what is alike for all. -/
namespace Go.Proofs.YtppkeophochgiaaGreatDoor
open Go.RowKit

theorem getA_short (k : Nat) : ∀ i acc l, (getA k i acc l).2.2 = 0 → (getA k i acc l).2.1.length < l.length := by
  induction k with
  | zero => intro i acc l h; simp [getA_end] at h
  | succ k ih =>
    intro i acc l h
    cases l with
    | nil => simp [getA_nil] at h
    | cons c l =>
      by_cases h1 : 128 ≤ c.toNat
      · rw [getA_more h1] at h ⊢
        have := ih _ _ _ h
        simp only [List.length_cons]; omega
      · by_cases h2 : c.toNat = 0 ∧ 0 < i
        · rw [getA_zero h2.1 h2.2] at h; simp at h
        · by_cases h3 : 1099511627776 < acc + c.toNat % 128 * 128 ^ i
          · rw [getA_over (by omega) h2 h3] at h; simp at h
          · rw [getA_done (by omega) h2 h3]; simp
theorem gR_short (l : List UInt8) (h : gC l = 0) : (gR l).length < l.length := by
  unfold gR gC getL at *; exact getA_short 6 0 0 l h

theorem rnC_zero {l : List UInt8} {c : Nat} (h : rnC l c = 0) : c = 0 ∧ gC l = 0 := by
  by_cases hc : c = 0
  · subst hc; rw [(rn_zero l).2.2] at h; exact ⟨rfl, h⟩
  · rw [(rn_err l hc).2.2] at h; exact absurd h hc
theorem rtC_zero {l : List UInt8} {c : Nat} (h : rtC l c = 0) : c = 0 ∧ tC l = 0 := by
  by_cases hc : c = 0
  · subst hc; rw [(rt_zero l).2.2] at h; exact ⟨rfl, h⟩
  · rw [(rt_err l hc).2.2] at h; exact absurd h hc
theorem owns_mono {w : World} {base base' : Nat} {e : TypeId} {size : Nat} {v : Value} {n : Nat} {xs : List Value} (h : w.ownsRow base e size v n xs) (hb : base' ≤ base) : w.ownsRow base' e size v n xs := by
  obtain ⟨h1, h2⟩ := h
  refine ⟨h1, ?_⟩
  rcases h2 with h2 | ⟨g, cap, cur, hv, hg, r⟩
  · exact .inl h2
  · exact .inr ⟨g, cap, cur, hv, by omega, r⟩
theorem owns_other' {w w' : World} {base b : Nat} {e : TypeId} {size : Nat} {v : Value} {n : Nat} {xs : List Value} (h : w.ownsRow base e size v n xs) (hb : b < base) (hg : w.grownBy w' (some b)) : w'.ownsRow base e size v n xs :=
  h.kept hg (by
    rcases hx : v.ownBlock with _ | j
    · exact .inl rfl
    · exact .inr (by have := h.lt j hx; simp; omega))

theorem cell_kept {w w' : World} {a : Addr} {v : Value} (h : w.cell? a = some v) (hb : Below w.heap.size w w') : w'.cell? a = some v := (hb.cell (World.block_lt_of_cell? w _ h)).trans h
theorem rd_num (n : Nat) (more : List UInt8) (h : n ≤ 1099511627776) : rnN (num n ++ more) 0 = n ∧ rnR (num n ++ more) 0 = more ∧ rnC (num n ++ more) 0 = 0 := by
  rw [(rn_zero _).1, (rn_zero _).2.1, (rn_zero _).2.2]
  exact ⟨gN_num n more h, gR_num n more h, gC_num n more h⟩
end Go.Proofs.YtppkeophochgiaaGreatDoor
/- Small aids: cells of a row, rows of the call's own as slices. -/
namespace Go.Proofs.YtppkeophochgiaaGreatDoor
open Go.RowKit
set_option linter.unusedVariables false

theorem below_grownBy {w w' : World} (h : Below w.heap.size w w') : w.grownBy w' none := ⟨h.os, h.tape, h.output, h.size, fun k hk _ => h.block k hk⟩
theorem owns_below {w w' : World} {base : Nat} {e : TypeId} {size : Nat} {v : Value} {n : Nat} {xs : List Value} (h : w.ownsRow base e size v n xs) (hb : Below w.heap.size w w') : w'.ownsRow base e size v n xs :=
  h.kept (below_grownBy hb) (by
    rcases v.ownBlock with _ | j
    · exact .inl rfl
    · exact .inr (by simp))
theorem cell_at {w : World} {a : Addr} {i j : Nat} {v : Value} (h : w.cell? (a.add (i + (j + 1))) = some v) : w.cell? ⟨(a.add i).block, (a.add i).off + (j + 1), none⟩ = some v := by
  rw [← Addr.add_succ', Addr.add_add]; exact h
/-- a row of the call's own is such a slice -/
theorem SliceIs.ownedK {W : World} {base k : Nat} {e : TypeId} {v : Value} {n : Nat} {vals : List Value} (h : W.ownsRow base e k v n vals) : SliceIs W v k vals := by
  have h0 := h
  obtain ⟨h1, h2⟩ := h
  rcases h2 with ⟨rfl, h2⟩ | ⟨g, cap, cur, rfl, hg, hh, h3, h4, h5⟩
  · exact .inl ⟨rfl, List.eq_nil_of_length_eq_zero (by subst h2; simpa using h1)⟩
  · refine .inr ⟨⟨g, 0, none⟩, n, cap, rfl, h3, h4, h1, fun i u hi => ?_⟩
    exact h0.cells (g := g) rfl i u hi
theorem owns_slice {W : World} {base k : Nat} {e : TypeId} {v : Value} {n : Nat} {vals : List Value} (h : W.ownsRow base e k v n vals) : ∃ A cap, v = .slice A n cap := by
  obtain ⟨h1, h2⟩ := h
  rcases h2 with ⟨rfl, rfl⟩ | ⟨g, cap, cur, rfl, _⟩
  · exact ⟨none, 0, rfl⟩
  · exact ⟨_, cap, rfl⟩
theorem owns_mono' {w : World} {base base' : Nat} {e : TypeId} {size : Nat} {v : Value} {n : Nat} {xs : List Value} (h : w.ownsRow base e size v n xs) (hb : base' ≤ base) : w.ownsRow base' e size v n xs := by
  obtain ⟨h1, h2⟩ := h
  refine ⟨h1, ?_⟩
  rcases h2 with h2 | ⟨g, cap, cur, hv, hg, r⟩
  · exact .inl h2
  · exact .inr ⟨g, cap, cur, hv, by omega, r⟩
theorem grown_undrew {w w' : World} {r : Option Nat} (h : w.drew.grownBy w' r) : w.grownBy w' r := ⟨h.os, h.tape, h.output, h.size, h.block⟩
end Go.Proofs.YtppkeophochgiaaGreatDoor
/- 'append(dst, src...)' onto a row of the call's own, whatever slice the source is (nil too). -/
namespace Go.Proofs.YtppkeophochgiaaGreatDoor
open Go.RowKit
set_option linter.unusedVariables false

theorem run_append_is {P : Program} {w : World} {base : Nat} {t ty e : TypeId} {i : TypeInfo} {z : Value} {size bytes : Nat} (ht : P.underlying t = some (.slice e)) (hi : P.info? e = some i) (hz : i.zero = some z)
    (hsize : i.size = size) (hby : i.bytes = bytes) (hzs : z.cells.size = size) (hsz : 0 < size) {v : Value} {n : Nat} {xs : List Value} (hown : w.ownsRow base e size v n xs)
    {x : Value} {m : Nat} {news : List Value} (hx : SliceIs w x size news) (hl : news.length = m * size) (h1 : ∀ u ∈ news, u.oneCell' = true) (h63 : n + m ≤ maxLen) (hbytes : (n + m) * bytes ≤ 140737488355328) (hbase : base ≤ w.heap.size) :
    ∃ v' w', (Builtin.append_ #[t, t] ty #[v, x]).run P w = .ok v' w' ∧ w'.ownsRow base e size v' (n + m) (xs ++ news) ∧ w.grownBy w' v.ownBlock ∧ (v'.ownBlock = v.ownBlock ∨ v'.ownBlock = some w.heap.size) := by
  rcases hx with ⟨rfl, rfl⟩ | ⟨a, len, cap, rfl, h2, h3, h4, h5⟩
  · have hm : m = 0 := by
      rcases Nat.eq_zero_or_pos m with h | h
      · exact h
      · have : 0 < m * size := Nat.mul_pos h hsz
        simp at hl; omega
    subst hm
    refine ⟨v, w, ?_, by simpa using hown, ⟨rfl, rfl, rfl, Nat.le_refl _, fun _ _ _ => rfl⟩, .inl rfl⟩
    rcases hown.2 with ⟨rfl, rfl⟩ | ⟨g, c, cur, rfl, _, _, hnc, _⟩
    · simp [Builtin.append_, run_underlying ht, sizeOf, typeInfo, hi, Builtin.lenOf, Builtin.firstCells]
    · simp [Builtin.append_, run_underlying ht, sizeOf, typeInfo, hi, Builtin.lenOf, Builtin.firstCells, hnc, storeCells]
  · have hm : len = m := Nat.eq_of_mul_eq_mul_right hsz (h4.symm.trans hl)
    subst hm
    obtain ⟨v', w', hr, k1, k2, _, k3⟩ := run_append_own_at (P := P) w base t ty e i z size bytes ht hi hz hsize hby hzs hsz v n xs hown a len cap news hl h5 h1 h63 hbytes hbase
    exact ⟨v', w', hr, k1, k2, k3⟩
theorem wpList_append_is {P : Program} {w : World} {ops : Array Oper} {rest : List Oper} {o : Oper} {a : Act} {Q : Exit → Act → World → Prop} (hgd : o.guard = none) (s x : Operand) (t : TypeId)
    (ho : o.op = .call { callee := .builtin .append, args := #[s, x], argTypes := #[t, t] })
    (base : Nat) (e : TypeId) (i : TypeInfo) (z : Value) (size bytes : Nat) (ht : P.underlying t = some (.slice e)) (hi : P.info? e = some i) (hz : i.zero = some z)
    (hsize : i.size = size) (hby : i.bytes = bytes) (hzs : z.cells.size = size) (hsz : 0 < size)
    (v : Value) (n : Nat) (xs : List Value) (hs : a.eval s = v) (hown : w.ownsRow base e size v n xs)
    (xv : Value) (m : Nat) (news : List Value) (hx : a.eval x = xv) (hsl : SliceIs w xv size news) (hl : news.length = m * size) (h1 : ∀ u ∈ news, u.oneCell' = true)
    (h63 : n + m ≤ maxLen) (hbytes : (n + m) * bytes ≤ 140737488355328) (hbase : base ≤ w.heap.size)
    (h : ∀ v' w', w'.ownsRow base e size v' (n + m) (xs ++ news) → w.grownBy w' v.ownBlock → (v'.ownBlock = v.ownBlock ∨ v'.ownBlock = some w.heap.size) → wpList P ops Q rest (a.put o.dst v') w') :
    wpList P ops Q (o :: rest) a w := by
  refine wpList_plain hgd fun K hK => ?_
  obtain ⟨v', w', hr, h2, h3, h5⟩ := run_append_is (P := P) (t := t) (ty := o.type) ht hi hz hsize hby hzs hsz hown hsl hl h1 h63 hbytes hbase
  unfold Oper.wp execOp
  simp only [ho, resolve, invoke, builtin, Sem.run_bind, Sem.run_pure, Result.andThen_ok, List.map_toArray, List.map_cons, List.map_nil, hs, hx, hr]
  exact hK _ _ (h v' w' h2 h3 h5)
end Go.Proofs.YtppkeophochgiaaGreatDoor
