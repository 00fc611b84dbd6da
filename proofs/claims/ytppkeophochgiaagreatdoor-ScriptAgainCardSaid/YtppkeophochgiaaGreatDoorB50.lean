/- Texts of one proof, one behind the other: ScrCode, ScrPlay2, ScrBare, ScrRun. -/
import Derived.Test.YtppkeophochgiaaGreatDoorB34
import Derived.Test.YtppkeophochgiaaGreatDoorB49
import Derived.Test.YtppkeophochgiaaGreatDoorB05
import Derived.Test.YtppkeophochgiaaGreatDoorB03
import Derived.Test.YtppkeophochgiaaGreatDoorB45
import Derived.Test.YtppkeophochgiaaGreatDoorB08
/- What a script's line answers: its error's number is one of the document's twelve. No program is in sight. -/
namespace Go.Proofs.YtppkeophochgiaaGreatDoor
open Go.RowKit
set_option linter.unusedVariables false
theorem nm6 (d : List UInt8) (n : Nat) (h : nmL 6 d = some n) : n ≤ 1000000 := by
  obtain ⟨h1, h2⟩ := nm_some h
  have h3 := Lib.lt_pow_nDigits n
  rw [← Lib.decDigits_length, h2] at h3
  have h4 : 10 ^ d.length ≤ 10 ^ 6 := Nat.pow_le_pow_right (by omega) h1
  omega
def okc (c : Nat) : Prop := c ≤ 12 ∧ c ≠ 7
theorem lnBad_okc (b : Bool) (last : List UInt8) (x : PL) : okc (lnBad b last x) := by
  unfold lnBad okc
  repeat' split
  all_goals omega
theorem lnFrom_okc (l : List PL) : ∀ (k : Nat) (last : List UInt8), okc (lnFrom k last l).1 := by
  induction l with
  | nil => intro k last; show okc 0; unfold okc; omega
  | cons x l ih =>
    intro k last
    unfold lnFrom
    split
    · exact ih _ _
    · exact lnBad_okc _ _ _
theorem flFault_okc (l : List PF) : okc (flFault l).1 := by
  unfold flFault lnFault
  split
  · unfold okc; omega
  · exact lnFrom_okc _ _ _
theorem putF_okc (l : List PF) (n d : List UInt8) : okc (putF l n d).1 := by
  unfold putF
  split <;> exact flFault_okc _
theorem mayC_okc (m : GM) (k : List UInt8) : okc (mayC m k) := by
  unfold mayC okc
  repeat' split
  all_goals omega
theorem opC_okc (m : GM) (k : List UInt8) : okc (opC' m k) := by
  unfold opC'
  have := mayC_okc m k
  unfold okc at *
  repeat' split
  all_goals omega
theorem adC_okc (m : GM) (k : List UInt8) (n : Int) : okc (adC m k n) := by
  unfold adC okc
  repeat' split
  all_goals omega
theorem mkC_okc (m : PMk) : okc (mkC m) := by
  unfold mkC okc
  repeat' split
  all_goals omega
theorem wrC_okc (d : TP) (s : List UInt8) : okc (wrC d s) := by
  unfold wrC okc
  repeat' split
  all_goals omega
theorem apC_okc (d : TP) (s : List UInt8) : okc (apC d s) := by
  unfold apC
  have := wrC_okc d (recL s)
  unfold okc at *
  repeat' split
  all_goals omega
theorem ctC_okc (d : TP) (n : Int) : okc (ctC d n) := by
  unfold ctC okc
  repeat' split
  all_goals omega
theorem okc_small {c : Nat} (h : c ≤ 6) : okc c := by unfold okc; omega
namespace SP
theorem does_okc (s : SP) (c : Cmd) (w : List (List UInt8)) : okc (s.does c w).2.2 := by
  unfold does
  split
  · unfold drop; repeat' split
    all_goals exact okc_small (by simp)
  · unfold list; repeat' split
    all_goals exact okc_small (by simp)
  · exact okc_small (by simp [plan])
  · unfold size; repeat' split
    all_goals exact okc_small (by simp)
  · unfold send; repeat' split
    all_goals exact okc_small (by simp)
  · exact opC_okc _ _
  · unfold admits; split
    · exact okc_small (by simp)
    · simpa only [] using adC_okc _ _ _
  · unfold mark; repeat' split
    all_goals first | (simpa only [] using mkC_okc _) | (simpa only [] using apC_okc _ _) | exact okc_small (by simp)
  · exact okc_small (by simp [far])
  · unfold cut; split
    · exact okc_small (by simp)
    · simpa only [] using ctC_okc _ _
  · exact okc_small (by simp [again])
  · exact okc_small (by simp)
theorem play_okc (s : SP) (line : List UInt8) : okc (s.play line).2.2 := by
  unfold play
  split
  · unfold put
    repeat' split
    all_goals first | (simpa only [] using putF_okc _ _ _) | exact okc_small (by simp)
  · split
    · exact okc_small (by simp)
    · split
      · exact does_okc _ _ _
      · exact okc_small (by simp)
end SP
end Go.Proofs.YtppkeophochgiaaGreatDoor
/- A line is played, whatever it is. -/
namespace Go.Proofs.YtppkeophochgiaaGreatDoor
open Go.RowKit
set_option linter.unusedVariables false
theorem Cmd.enters (c : Cmd) : ∀ args w, (callFunc c.fn args).run Tryz.prog w = .ok (.enter c.fn args) w := by
  cases c
  · exact enters_of Tryz.func74 (by kernel_rfl) rfl
  · exact enters_of Tryz.func75 (by kernel_rfl) rfl
  · exact enters_of Tryz.func76 (by kernel_rfl) rfl
  · exact enters_of Tryz.func77 (by kernel_rfl) rfl
  · exact enters_of Tryz.func78 (by kernel_rfl) rfl
  · exact enters_of Tryz.func79 (by kernel_rfl) rfl
  · exact enters_of Tryz.func80 (by kernel_rfl) rfl
  · exact enters_of Tryz.func81 (by kernel_rfl) rfl
  · exact enters_of Tryz.func82 (by kernel_rfl) rfl
  · exact enters_of Tryz.func83 (by kernel_rfl) rfl
  · exact enters_of Tryz.func84 (by kernel_rfl) rfl
theorem play_no (s : SP) {line x : List UInt8} {r : List (List UInt8)} (hp : SP.wPut.isPrefixOf line = false) (hs : splC 32 line = x :: r) :
    s.play line = match cmdOf x with | none => (s, [], 1) | some c => if c.words = none ∨ c.words = some r.length then s.does c r else (s, [], 1) := by
  unfold SP.play
  rw [if_neg (by simp [hp]), hs]
  simp only [List.headD_cons, List.length_cons, List.tail_cons, Nat.add_sub_cancel]
  cases cmdOf x <;> rfl
section
variable {Q : Guest} {E : Nat → Addr} {w0 w w' : World} {pb k : Nat} {A : PlA} {s : SP}
theorem pdoes_any (c : Cmd) (r : List (List UInt8)) (v : Value) (h : PlAt Q w0 w pb A s k) (hI : SInv s) (hE : SEnv E w0) (hv : SliceIs w v 1 (strV r)) (hk : k < 1000000) (hr : r.length ≤ 1000) (hx : ∀ x ∈ r, x.length ≤ 200) (hw : c.words = none ∨ c.words = some r.length) :
    Calls Tryz.prog c.fn #[.pointer (some ⟨pb, 0, none⟩), v] w (Ans Q E w0 pb k (s.does c r)) := by
  have one : ∀ n, r.length = n → c.words = some n → True := fun _ _ _ => trivial
  have e0 : ∀ n, c.words = some n → r.length = n := fun n h => by
    rcases hw with hw | hw
    · rw [hw] at h; cases h
    · rw [hw] at h; exact Option.some.inj h
  have hdoes : s.does .send r = s.send r := by
    rcases r with _ | ⟨a, _ | ⟨b, _ | ⟨c, w⟩⟩⟩ <;> rfl
  match c, r, e0, hx, hv, hr, hdoes with
  | .send, r, _, hx, hv, hr, hdoes =>
    rw [hdoes]
    exact psend_any r v h hI hE hv hr (fun x hm => by have := hx x hm; omega) (fun x _ n hn => nm6 x n hn)
  | .drop, [a, b], _, hx, hv, _, _ => exact pdrop_any a b v h hI hE hv
  | .list, [a], _, hx, hv, _, _ => exact plist_any a v h hI hE hv
  | .plan, [], _, _, _, _, _ => exact pplan_any v h hI hE
  | .size, [a, b], _, hx, hv, _, _ => exact psize_any a b v h hI hE hv (by have := hx b (by simp); omega)
  | .open, [a], _, hx, hv, _, _ => exact popen_any a v h hI hE hv (by have := hx a (by simp); omega) hk
  | .admits, [a, b], _, hx, hv, _, _ => exact padmit_any a b v h hE hv (by have := hx a (by simp); omega) (by have := hx b (by simp); omega)
  | .mark, [a, b], _, hx, hv, _, _ => exact pmark_any a b v h hI hE hv (by have := hx b (by simp); omega) (by have := hx a (by simp); omega)
  | .far, [a], _, hx, hv, _, _ => exact pfar_any a v h hI hE hv
  | .cut, [a], _, hx, hv, _, _ => exact pcut_any a v h hE hv (by have := hx a (by simp); omega) (fun n hn => nm6 a n hn)
  | .again, [], _, _, _, _, _ => exact pagain_any v h hI hE (by
      have a := readL_cnt s.tp.b
      have b := readL_len s.tp.b
      have c := hI.tpb
      omega)
  | .drop, [], e0, _, _, _, _ => exact absurd (e0 2 rfl) (by simp)
  | .drop, [a], e0, _, _, _, _ => exact absurd (e0 2 rfl) (by simp)
  | .drop, a :: b :: d :: r, e0, _, _, _, _ => exact absurd (e0 2 rfl) (by simp)
  | .list, [], e0, _, _, _, _ => exact absurd (e0 1 rfl) (by simp)
  | .list, a :: b :: r, e0, _, _, _, _ => exact absurd (e0 1 rfl) (by simp)
  | .plan, a :: r, e0, _, _, _, _ => exact absurd (e0 0 rfl) (by simp)
  | .size, [], e0, _, _, _, _ => exact absurd (e0 2 rfl) (by simp)
  | .size, [a], e0, _, _, _, _ => exact absurd (e0 2 rfl) (by simp)
  | .size, a :: b :: d :: r, e0, _, _, _, _ => exact absurd (e0 2 rfl) (by simp)
  | .open, [], e0, _, _, _, _ => exact absurd (e0 1 rfl) (by simp)
  | .open, a :: b :: r, e0, _, _, _, _ => exact absurd (e0 1 rfl) (by simp)
  | .admits, [], e0, _, _, _, _ => exact absurd (e0 2 rfl) (by simp)
  | .admits, [a], e0, _, _, _, _ => exact absurd (e0 2 rfl) (by simp)
  | .admits, a :: b :: d :: r, e0, _, _, _, _ => exact absurd (e0 2 rfl) (by simp)
  | .mark, [], e0, _, _, _, _ => exact absurd (e0 2 rfl) (by simp)
  | .mark, [a], e0, _, _, _, _ => exact absurd (e0 2 rfl) (by simp)
  | .mark, a :: b :: d :: r, e0, _, _, _, _ => exact absurd (e0 2 rfl) (by simp)
  | .far, [], e0, _, _, _, _ => exact absurd (e0 1 rfl) (by simp)
  | .far, a :: b :: r, e0, _, _, _, _ => exact absurd (e0 1 rfl) (by simp)
  | .cut, [], e0, _, _, _, _ => exact absurd (e0 1 rfl) (by simp)
  | .cut, a :: b :: r, e0, _, _, _, _ => exact absurd (e0 1 rfl) (by simp)
  | .again, a :: r, e0, _, _, _, _ => exact absurd (e0 0 rfl) (by simp)
theorem pplay_any (line : List UInt8) (h : PlAt Q w0 w pb A s k) (hI : SInv s) (hE : SEnv E w0) (hk : k < 1000000) (hl : line.length ≤ 200) :
    Calls Tryz.prog 22 #[.pointer (some ⟨pb, 0, none⟩), .string (bs line)] w (Ans Q E w0 pb k (s.play line)) := by
  cases hp : SP.wPut.isPrefixOf line with
  | true =>
    have e : s.play line = s.put (line.drop 4) := by unfold SP.play; rw [if_pos hp]
    rw [e]
    exact pplay_put line h hI hE hl hp
  | false =>
    obtain ⟨x, r, hs⟩ := splC_cons line
    have hmem : ∀ y ∈ r, y.length ≤ 200 := fun y hy => by
      have := (splC_mem (c := 32) _ line (Nat.le_refl _) y (by rw [hs]; exact List.mem_cons_of_mem _ hy)).1
      omega
    have hlen : r.length ≤ 1000 := by
      have := splC_len' 32 line
      rw [hs, List.length_cons] at this
      omega
    rw [play_no s hp hs]
    cases hc : cmdOf x with
    | none => exact pplay_none line x r h hI hE hl hp hs hc
    | some c =>
      have hcv : (cmdOf x).map Cmd.val = some (.agg #[.int .i64 c.num, .func (.func c.fn) #[] #[]]) := by rw [hc]; rfl
      simp only []
      by_cases hw : c.words = none ∨ c.words = some r.length
      · rw [if_pos hw]
        refine pplay_ok line x r h hI hE hl hp hs c.num c.fn (s.does c r) hcv ?_ c.enters (fun X v b hv => pdoes_any c r v (h.below b) hI hE hv hk hlen hmem hw)
        rcases hw with hw | hw
        · left; unfold Cmd.num; rw [hw]; decide
        · right; unfold Cmd.num; rw [hw]
      · rw [if_neg hw]
        have hz : ∃ m : Nat, c.words = some m ∧ m ≠ r.length := by
          cases e : c.words with
          | none => exact absurd (.inl e) hw
          | some m => exact ⟨m, rfl, fun h => hw (.inr (by rw [e, h]))⟩
        obtain ⟨m, hm, hne⟩ := hz
        have hnum : c.num = (m : Nat) := by unfold Cmd.num; rw [hm]
        exact pplay_bad line x r h hI hE hl hp hs c.num c.fn hcv (by omega) (by omega)
end
end Go.Proofs.YtppkeophochgiaaGreatDoor
/- An error without its place, and its text. -/
namespace Go.Proofs.YtppkeophochgiaaGreatDoor
open Go.RowKit
set_option linter.unusedVariables false
section
variable {E : Nat → Addr} {w0 w w' : World}
set_option maxRecDepth 100000 in
set_option maxHeartbeats 6400000 in
theorem sbare_any (v : Value) (c : Nat) (hh : Hand w) (h : Told E w v c) (hc : c ≠ 0) :
    Calls Tryz.prog 23 #[v] w fun e w' => e = .returned (errv (E c)) ∧ Below w.heap.size w w' := by
  have HB := Lib.hid (below_al w (.cells #[.pointer none] 121))
  have HC := Lib.hid hc
  obtain ⟨at', h⟩ := h
  rcases h with ⟨h, _⟩ | ⟨_, _, rfl⟩ | ⟨_, _, fb, rfl, hf⟩
  · exact absurd h hc
  · have AM := Lib.hid (as_miss (E c) ⟨w.heap.size, 0, none⟩ (w.alloc (.cells #[.pointer none] 121)) (hh.below HB.out))
    clear hh hc
    unfold errv
    go_enter Tryz.func23, Tryz.ntmps23
    go_wp2_with fail
    refine AM.out.mono ?_
    rintro e w1 ⟨rfl, b1⟩
    have B1 := Lib.hid (below_trans' HB.out b1)
    clear b1 AM
    go_wp2_with fail
    go_ret
    exact ⟨rfl, B1.out⟩
  · have AH := Lib.hid (as_hit' ⟨fb, 0, none⟩ ⟨w.heap.size, 0, none⟩ (.pointer none) (w.alloc (.cells #[.pointer none] 121)) (hh.below HB.out) (by simp) (by simp) rfl)
    have HF := Lib.hid hf
    have hlt : fb < w.heap.size := lt_of_block hf
    clear hh hc hf
    go_enter Tryz.func23, Tryz.ntmps23
    go_wp2_with fail
    refine AH.out.mono ?_
    rintro e w1 ⟨rfl, p1, g1⟩
    have hf1 : w1.heap[fb]? = some (.cells #[.int .i64 at', errv (E c)] 125 (0, 0)) := by
      rw [g1.block fb (by simp; omega) (by simp; omega), HB.out.block fb hlt]; exact HF.out
    have c1 : w1.cell? ⟨fb, 1, none⟩ = some (errv (E c)) := by simp [World.cell?, hf1]
    have B1 : Hid (Below w.heap.size w w1) := Lib.hid ⟨g1.os.trans HB.out.os, g1.tape.trans HB.out.tape, g1.output.trans HB.out.output, Nat.le_trans HB.out.size g1.size, fun k hk => (g1.block k (by simp; omega) (by simp; omega)).trans (HB.out.block k hk)⟩
    clear g1 hf1 AH
    go_wp2_with fail
    go_ret
    exact ⟨rfl, B1.out⟩
set_option maxRecDepth 100000 in
theorem esError_any (a : Addr) (t : List UInt8) (h : w.cell? a = some (.string (bs t))) :
    Calls Tryz.prog 327 #[.pointer (some a)] w fun e w' => e = .returned (.string (bs t)) ∧ w = w' := by
  go_enter Tryz.func327, Tryz.ntmps327
  go_wp2_with fail
  go_ret
  exact ⟨rfl, rfl⟩
end
end Go.Proofs.YtppkeophochgiaaGreatDoor
/- A script is run. -/
namespace Go.Proofs.YtppkeophochgiaaGreatDoor
open Go.RowKit
set_option linter.unusedVariables false
theorem run_zero (ls : List (List UInt8)) : strV (SP.zero.run (ls.take 0)) = [] ∧ SP.zero.after (ls.take 0) = SP.zero := ⟨rfl, rfl⟩
theorem told_is (a : An) : (a.2 = 0 → SP.told a = a.1) ∧ (a.2 ≠ 0 → SP.told a = textOf a.2) := by
  unfold SP.told
  exact ⟨fun h => if_pos h, fun h => if_neg h⟩
/-- what a script's run has of its world -/
structure REnv (E : Nat → Addr) (w : World) : Prop where
  env : SEnv E w
  hand : Hand w
  txt : ∀ c, 1 ≤ c → c ≤ 12 → c ≠ 7 → w.cell? (E c) = some (.string (bs (textOf c)))
theorem REnv.below {E : Nat → Addr} {w w' : World} (h : REnv E w) (b : Below w.heap.size w w') : REnv E w' := ⟨h.env.below b, h.hand.below b, fun c h1 h2 h3 => (b.cell (World.block_lt_of_cell? w _ (h.txt c h1 h2 h3))).trans (h.txt c h1 h2 h3)⟩
theorem run_snoc (s : SP) (l : List (List UInt8)) (x : List UInt8) : s.run (l ++ [x]) = s.run l ++ [SP.told ((s.after l).play x).2] := by
  rw [SP.run_append]; rfl
theorem after_snoc (s : SP) (l : List (List UInt8)) (x : List UInt8) : s.after (l ++ [x]) = ((s.after l).play x).1 := by
  induction l generalizing s with
  | nil => rfl
  | cons a l ih => simp only [List.cons_append, SP.after, ih]
theorem after_inv : ∀ (l : List (List UInt8)) (s : SP), SInv s → (∀ x ∈ l, x.length ≤ 200) → SInv (s.after l)
  | [], s, h, _ => h
  | x :: l, s, h, hl => after_inv l _ (play_inv h x (hl x (by simp)) nm6) (fun y hy => hl y (List.mem_cons_of_mem _ hy))
/-- the row that a run makes, as a guest -/
def rowQ (o : Value) (w : World) : Guest := ⟨fun x ob => o.ownBlock = some x ∧ w.heap[x]? = some ob, w.heap.size⟩
theorem own_guest {w w' : World} {base : Nat} {e : TypeId} {size : Nat} {v : Value} {n : Nat} {xs : List Value} (h : w.ownsRow base e size v n xs) (hx : ∀ x o, v.ownBlock = some x → w.heap[x]? = some o → w'.heap[x]? = some o) : w'.ownsRow base e size v n xs := by
  obtain ⟨h1, h2⟩ := h
  refine ⟨h1, ?_⟩
  rcases h2 with h2 | ⟨g, cap, cur, hv, hg, hh, h3⟩
  · exact .inl h2
  · subst hv
    exact .inr ⟨g, cap, cur, rfl, hg, hx g _ rfl hh, h3⟩
theorem own_at {w : World} {base : Nat} {e : TypeId} {size : Nat} {v : Value} {n : Nat} {xs : List Value} (h : w.ownsRow base e size v n xs) {x : Nat} (hx : v.ownBlock = some x) : ∃ o, w.heap[x]? = some o := by
  obtain ⟨h1, h2⟩ := h
  rcases h2 with ⟨rfl, _⟩ | ⟨g, cap, cur, hv, hg, hh, h3⟩
  · cases hx
  · subst hv
    cases hx
    exact ⟨_, hh⟩
theorem PlAt.grow {o : Value} {wr w0 w4 w5 : World} {pb k : Nat} {A : PlA} {s : SP} (p : PlAt (rowQ o wr) w0 w4 pb A s k) {e : TypeId} {size n : Nat} {xs : List Value} (ho : wr.ownsRow w0.heap.size e size o n xs) {ob : Obj} {v' : Value} (hg : (w4.alloc ob).grownBy w5 o.ownBlock) (hv : v'.ownBlock = o.ownBlock ∨ v'.ownBlock = some (w4.alloc ob).heap.size) : PlAt (rowQ v' w5) w0 w5 pb A s k := by
  have gn : ∀ x, o.ownBlock = some x → x ≠ pb ∧ x ≠ A.gb ∧ x ≠ A.mb ∧ ¬ A.F x ∧ A.vf.ownBlock ≠ some x ∧ A.vt.ownBlock ≠ some x := fun x hx => by
    obtain ⟨b, hb⟩ := own_at ho hx
    exact p.gn x b ⟨hx, hb⟩
  have p1 := p.below (wb_alloc w4 ob)
  have hc : Chg (w4.alloc ob) w5 (fun x => o.ownBlock = some x) := ⟨hg.os, hg.tape, hg.output, hg.size, fun x hx hn => hg.block x hx (fun e => hn e.symm)⟩
  have p2 := p1.other hc (fun x hx => ⟨own_base ho hx, gn x hx⟩)
  refine p2.host (fun x b h => h.2) (fun x b h => ?_) (Nat.le_refl _)
  rcases hv with hv | hv
  · exact gn x (by rw [← hv]; exact h.1)
  · have hx : x = (w4.alloc ob).heap.size := by
      have h' : v'.ownBlock = some x := h.1
      rw [hv] at h'
      exact (Option.some.inj h').symm
    obtain ⟨es, c, hm⟩ := p1.mapObj
    have a1 := p1.lt
    have a2 := lt_of_block p1.gt.cells
    have a3 := lt_of_block hm
    refine ⟨by omega, by omega, by omega, fun hF => ?_, fun e => ?_, fun e => ?_⟩
    · have := (p1.tp.lo x hF).2; omega
    · have := (p1.fr.lt x e).2; omega
    · have := (p1.tt.lt x e).2; omega
section
variable {E : Nat → Addr}
attribute [local irreducible] SP.play SP.told SP.run SP.after
set_option maxRecDepth 100000 in
set_option maxHeartbeats 6400000 in
/-- too many lines -/
theorem srun_long (v : Value) (n : Nat) (s : Option Addr) (c : Nat) (w : World) (hv : v = .slice s n c) (hn : 80 < n) (h2 : Has E w 2) :
    Calls Tryz.prog 11 #[v] w fun e w' => e = .returned (.tuple #[.slice none 0 0, errv (E 2)]) ∧ Below w.heap.size w w' := by
  subst hv
  have hI : (80 : Int) < n := by omega
  have c2 : w.cell? ⟨0, 0, none⟩ = some (errv (E 2)) := h2
  clear h2
  go_enter Tryz.func11, Tryz.ntmps11
  go_wp2_with fail
  go_quiet (fail)
  go_wp2_with fail
  go_ret2
  exact ⟨rfl, below_drewN (Below.refl _ _) _⟩
set_option maxRecDepth 100000 in
set_option maxHeartbeats 12800000 in
theorem srun_any (ls : List (List UInt8)) (v : Value) (w : World) (hv : SliceIs w v 1 (strV ls)) (hE : REnv E w) (hl : ls.length ≤ 80) (hx : ∀ x ∈ ls, x.length ≤ 200) :
    Calls Tryz.prog 11 #[v] w fun e w' => ∃ r, e = .returned (.tuple #[r, .nilIface]) ∧ w'.ownsRow w.heap.size 9 1 r ls.length (strV (SP.zero.run ls)) ∧ Below w.heap.size w w' := by
  obtain ⟨s0, m0, c0, rfl, hm0, hm1, hm2, g1⟩ := hv.get
  have hm0 : m0 = ls.length := by unfold strV at hm0; simpa using hm0.symm
  subst hm0
  have HV := Lib.hid hv
  have HE := Lib.hid hE
  have hI : ¬ (80 : Int) < ls.length := by omega
  have DN := Lib.hid (tnew_s (w0 := w) (w := w) ⟨#[]⟩ (Below.refl _ w) (by decide))
  have GN := Lib.hid (fun w' => gnew_any w')
  obtain ⟨i0, hi, hz0, hz1, hz2⟩ := info_parts infoStr
  have HXL := Lib.hid hx
  clear hv g1 hE hx
  go_enter Tryz.func11, Tryz.ntmps11
  go_wp2_with fail
  refine DN.out.mono ?_
  rintro e w1 ⟨db, rfl, ⟨F, hT, hF⟩, b1⟩
  have HT := Lib.hid hT
  have HF := Lib.hid hF
  have B1 := Lib.hid b1
  clear DN hT hF b1
  go_wp2_with fail
  refine (GN.out _).mono ?_
  rintro e w2 ⟨gb, mb, rfl, hg, b2, l1, l2⟩
  have HG := Lib.hid hg
  have BX := Lib.hid b2
  have B2 := Lib.hid (below_trans' B1.out b2)
  have LO := Lib.hid (And.intro l1 l2)
  clear hg b2 l1 l2
  have PZ : PlAt (rowQ (.slice none 0 0) (w2.alloc (.cells #[.slice none 0 0, .slice none 0 0, .pointer (some ⟨gb, 0, none⟩), .pointer (some ⟨db, 0, none⟩)] 57))) w (w2.alloc (.cells #[.slice none 0 0, .slice none 0 0, .pointer (some ⟨gb, 0, none⟩), .pointer (some ⟨db, 0, none⟩)] 57)) w2.heap.size ⟨.slice none 0 0, .slice none 0 0, gb, mb, db, F⟩ SP.zero 0 := by
    have hb := wb_alloc w2 (.cells #[.slice none 0 0, .slice none 0 0, .pointer (some ⟨gb, 0, none⟩), .pointer (some ⟨db, 0, none⟩)] 57)
    have z1 := B1.out.size
    have z2 := BX.out.size
    have z3 := LO.out
    refine ⟨heap_alloc_new w2 _, World.ownsRow_nil _ _ _ _, World.ownsRow_nil _ _ _ _, HG.out.below hb, (HT.out.below BX.out).below hb, fun x hx => ?_, by omega, by show _ ≤ gb; omega, by show _ ≤ mb; omega, below_trans' B2.out hb, fun x o h => (by cases h.1), fun x o h => (by cases h.1), Nat.le_refl _⟩
    have hx2 := (HT.out.lo x hx).2
    exact ⟨by omega, by show x ≠ gb; omega, by show x ≠ mb; omega, (by simp [Value.ownBlock]), (by simp [Value.ownBlock])⟩
  have HPZ := Lib.hid PZ
  have Z0 := Lib.hid run_zero
  clear PZ
  go_wp2_with fail
  generalize w2.alloc (.cells #[.slice none 0 0, .slice none 0 0, .pointer (some ⟨gb, 0, none⟩), .pointer (some ⟨db, 0, none⟩)] 57) = W at *
  generalize w2.heap.size = pb at *
  go_loopw [7, 9, 10, 11, 29] (fun o _ _ _ i wr => ∃ (j : Nat) (A : PlA) (k : Nat), i = .int .i64 j ∧ j ≤ ls.length ∧ k ≤ j ∧ wr.ownsRow w.heap.size 9 1 o j (strV (SP.zero.run (ls.take j))) ∧ PlAt (rowQ o wr) w wr pb A (SP.zero.after (ls.take j)) k) (fun _ _ _ _ i _ => ls.length - (intOf i).toNat)
  case atStart => exact ⟨0, _, 0, rfl, by omega, by omega, by rw [(Z0.out ls).1]; exact World.ownsRow_nil _ _ _ _, by rw [(Z0.out ls).2]; exact HPZ.out⟩
  case round =>
    obtain ⟨j, A, k, rfl, hj, hk, hown, hp⟩ := hrel
    have HO := Lib.hid hown
    have HPL := Lib.hid hp
    have BW := Lib.hid hp.bel
    by_cases hlt : j < ls.length
    · have hltI : (j : Int) < ls.length := by omega
      obtain ⟨s0', n0', c0', e1, _, _, _, g1⟩ := (HV.out.below BW.out).get
      cases e1
      obtain ⟨ad, rfl, d0⟩ := g1 _ _ (strV_at ls j hlt)
      have x1 : (0 : Int) ≤ j := by omega
      have x2 : (j : Int).toNat = j := by omega
      have KK := Lib.hid (show j + 1 ≤ ls.length by omega)
      have HIV := after_inv (ls.take j) SP.zero zero_inv (fun x hx => HXL.out x (List.mem_of_mem_take hx))
      have PY := Lib.hid (pplay_any ls[j] hp HIV HE.out.env (by omega) (HXL.out _ (List.getElem_mem _)))
      have CLE := Lib.hid (SP.play_okc (SP.zero.after (ls.take j)) ls[j])
      have NX := Lib.hid (show strV (SP.zero.run (ls.take (j + 1))) = strV (SP.zero.run (ls.take j)) ++ [.string (bs (SP.told ((SP.zero.after (ls.take j)).play ls[j]).2))] by
        rw [List.take_succ_eq_append_getElem hlt, run_snoc]; exact strV_snoc _ _)
      have NA := Lib.hid (show SP.zero.after (ls.take (j + 1)) = ((SP.zero.after (ls.take j)).play ls[j]).1 by rw [List.take_succ_eq_append_getElem hlt]; exact after_snoc _ _ _)
      have TD := Lib.hid (told_is ((SP.zero.after (ls.take j)).play ls[j]).2)
      generalize SP.told ((SP.zero.after (ls.take j)).play ls[j]).2 = T at *
      generalize (SP.zero.after (ls.take j)).play ls[j] = p at *
      generalize ls[j] = line at d0 PY
      obtain ⟨va, vc, rfl⟩ := owns_slice hown
      have HN1 : Hid (j + 1 ≤ maxLen) := by show _ ≤ _; unfold maxLen; omega
      have HN2 : Hid ((j + 1) * 16 ≤ 140737488355328) := by show _ ≤ _; omega
      clear hown hp g1 HIV
      go_wp2_with fail
      refine PY.out.mono ?_
      rintro e w3 ⟨r, A', k', rfl, t1, t2, t3⟩
      have P3 := Lib.hid t2
      have O3 := Lib.hid (own_guest HO.out (fun x o h1 h2 => t2.gs x o ⟨h1, h2⟩))
      have K3 := Lib.hid t3
      by_cases h0 : p.2.2 = 0
      · rw [h0] at t1
        obtain rfl := t1.zero
        have HT0 := Lib.hid ((TD.out).1 h0)
        rw [← HT0.out]
        clear t1 t2 t3 d0 PY
        go_wp2_with (at_builtin; refine Hid.out ?_)
        refine Lib.hid ?_
        refine wpList_append_is rfl _ _ 22 rfl w.heap.size 9 i0 _ 1 16 Tryz.underlying22 hi hz0 hz1 hz2 rfl (by decide) _ _ _ rfl (O3.out.alloc _) (.slice (some ⟨w3.heap.size, 0, none⟩) 1 1) 1 [.string (bs T)] rfl (lit_sliceP 1 (heap_alloc_new w3 _) rfl rfl (by omega)) rfl (one_cell rfl) HN1.out HN2.out (by have := P3.out.bel.size; simp; omega) ?_
        intro v' w5 hown5 hgrow hv'
        have HO5 := Lib.hid hown5
        have HP5 := Lib.hid (P3.out.grow HO.out hgrow hv')
        clear hown5 hgrow hv'
        go_wp2_with fail
        go_roundw
        case rel => exact ⟨j + 1, A', k', by go_num, KK.out, by have := K3.out; omega, by rw [NX.out]; exact HO5.out, by rw [NA.out]; exact HP5.out⟩
        case measure => have := KK.out; simp [intOf]; omega
      · have T1 := Lib.hid t1
        have B3 := Lib.hid t2.bel
        have BE := Lib.hid (sbare_any (E := E) (w := w3) r p.2.2 (HE.out.hand.below t2.bel) t1 h0)
        have HT0 := Lib.hid ((TD.out).2 h0)
        have TX := Lib.hid (fun (w' : World) (b : Below w.heap.size w w') => (HE.out.below b).txt p.2.2 (by omega) CLE.out.1 CLE.out.2)
        have ME : ∀ (v : Value) (w : World), (Go.method 492 345 v "Error").run Tryz.prog w = .ok (327, v) w := fun v w => by kernel_rfl
        rcases t1.two h0 with rfl | ⟨fb, rfl⟩
        all_goals
          clear t1 t2 t3 d0 PY
          go_wp2_with fail
          refine BE.out.mono ?_
          rintro e w4 ⟨rfl, b4⟩
          have B4 := Lib.hid b4
          have B4' := Lib.hid (below_trans' B3.out b4)
          unfold errv
          clear b4
          go_wp2_with fail
          refine (esError_any (E p.2.2) (textOf p.2.2) (TX.out _ B4'.out)).mono ?_
          rintro e w5 ⟨rfl, rfl⟩
          rw [← HT0.out]
          have P4 := Lib.hid (P3.out.below B4.out)
          have O4 := Lib.hid (owns_below O3.out B4.out)
          clear ME
          go_wp2_with (at_builtin; refine Hid.out ?_)
          refine Lib.hid ?_
          refine wpList_append_is rfl _ _ 22 rfl w.heap.size 9 i0 _ 1 16 Tryz.underlying22 hi hz0 hz1 hz2 rfl (by decide) _ _ _ rfl (O4.out.alloc _) (.slice (some ⟨w4.heap.size, 0, none⟩) 1 1) 1 [.string (bs T)] rfl (lit_sliceP 1 (heap_alloc_new w4 _) rfl rfl (by omega)) rfl (one_cell rfl) HN1.out HN2.out (by have := P4.out.bel.size; simp; omega) ?_
          intro v' w6 hown6 hgrow hv'
          have HO6 := Lib.hid hown6
          have HP6 := Lib.hid (P4.out.grow HO.out hgrow hv')
          clear hown6 hgrow hv'
          go_wp2_with fail
          go_roundw
          case rel => exact ⟨j + 1, A', k', by go_num, KK.out, by have := K3.out; omega, by rw [NX.out]; exact HO6.out, by rw [NA.out]; exact HP6.out⟩
          case measure => have := KK.out; simp [intOf]; omega
    · have hltI : ¬ (j : Int) < ls.length := by omega
      obtain rfl : j = ls.length := by omega
      rw [List.take_length] at hown HO
      obtain ⟨va, vc, hva⟩ := owns_slice hown
      subst hva
      clear hown hp
      go_wp2_with fail
      go_ret2
      exact ⟨_, rfl, HO.out, BW.out⟩
end
end Go.Proofs.YtppkeophochgiaaGreatDoor
