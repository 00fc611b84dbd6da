/- Texts of one proof, one behind the other: ScrPlain, ScrPre, ScrLaws, TapWrite. -/
import Derived.Test.YtppkeophochgiaaGreatDoorB31
import Derived.Test.YtppkeophochgiaaGreatDoorB32
import Derived.Test.YtppkeophochgiaaGreatDoorB06
import Derived.Test.YtppkeophochgiaaGreatDoorB25
import Derived.Test.YtppkeophochgiaaGreatDoorB03
import Derived.Test.YtppkeophochgiaaGreatDoorB09
import Derived.Test.YtppkeophochgiaaGreatDoorB04
import Derived.Test.YtppkeophochgiaaGreatDoorB19
import Derived.Test.YtppkeophochgiaaGreatDoorB33
import Derived.Test.YtppkeophochgiaaGreatDoorB11
import Derived.Test.YtppkeophochgiaaGreatDoorB08
import Derived.Outline
/- The plain model of a script: a player's state, and what each line makes of it. No program is in sight. -/
namespace Go.Proofs.YtppkeophochgiaaGreatDoor
open Go.RowKit
set_option linter.unusedVariables false

structure SP where
  fr : List PF
  tt : List PF
  gm : GM
  tp : TP
/-- an answer: its text, and an error's number -/
abbrev An := List UInt8 × Nat
def txOk : List UInt8 := [111, 107]
def txDone : List UInt8 := [100, 111, 110, 101]
def txNone : List UInt8 := [110, 111, 116, 104, 105, 110, 103]
def wFrom : List UInt8 := [102, 114, 111, 109]
def wTo : List UInt8 := [116, 111]
/-- joined by blanks -/
def glueL : List (List UInt8) → List UInt8
  | [] => []
  | [a] => a
  | a :: b :: l => a ++ 32 :: glueL (b :: l)
def joinL (l : List (List UInt8)) : List UInt8 := if l = [] then txNone else glueL l
def sideW (a : List UInt8) : Option Bool := if a = wFrom then some true else if a = wTo then some false else none
namespace SP
def files (s : SP) (b : Bool) : List PF := if b then s.fr else s.tt
def setF (s : SP) (b : Bool) (l : List PF) : SP := if b then { s with fr := l } else { s with tt := l }
def put (s : SP) (rest : List UInt8) : SP × An :=
  match sideW (cutA 32 rest) with
  | none => (s, [], 1)
  | some b =>
    if (cutC 32 rest).isSome = false ∨ (cutC 32 (cutB 32 rest)).isSome = false then (s, [], 1)
    else if (putF (s.files b) (cutA 32 (cutB 32 rest)) (cutB 32 (cutB 32 rest))).1 = 0 then (s.setF b (fputL (s.files b) (cutA 32 (cutB 32 rest)) (cutB 32 (cutB 32 rest))), txOk, 0)
    else (s, txOk, (putF (s.files b) (cutA 32 (cutB 32 rest)) (cutB 32 (cutB 32 rest))).1)
def drop (s : SP) (a n : List UInt8) : SP × An :=
  match sideW a with
  | none => (s, [], 1)
  | some b => if (fgetL (s.files b) n).isSome then (s.setF b (dropL (s.files b) n), txOk, 0) else (s, [], 6)
def lineT (x : PL) : List UInt8 := x.n ++ 58 :: (Lib.decDigits x.N.toNat ++ 58 :: Lib.decDigits x.S)
def list (s : SP) (a : List UInt8) : SP × An :=
  match sideW a with
  | none => (s, [], 1)
  | some b => (s, joinL ((s.files b).map fun f => lineT f.line), 0)
def stepT (x : PS) : List UInt8 := x.k ++ 58 :: x.n
def plan (s : SP) : SP × An := (s, joinL ((planL (s.fr.map PF.line) (s.tt.map PF.line)).map stepT), 0)
def size (s : SP) (n k : List UInt8) : SP × An :=
  match nmL 6 k with
  | none => (s, [], 1)
  | some z =>
    if z < 1 ∨ 64 < z then (s, [], 2)
    else
      let ops := mkOps (blks z (datOf s.tt n)) z (datOf s.fr n)
      (s, Lib.decDigits (costN ops) ++ 32 :: Lib.decDigits ops.length, 0)
/-- the numbers of words, if all are some -/
def nums : List (List UInt8) → Option (List Nat)
  | [] => some []
  | w :: l => match nmL 6 w, nums l with
    | some n, some r => some (n :: r)
    | _, _ => none
/-- the destination's files behind these deeds and the end -/
def sent (fr tt : List PF) (l : List Nat) : List PF := (XS.fin turnsN (l.foldl (fun x (n : Nat) => x.act (n : Int)) (XS.start fr tt))).tt
def send (s : SP) (w : List (List UInt8)) : SP × An :=
  match nums w with
  | none => (s, [], 1)
  | some l => ({ s with tt := sent s.fr s.tt l }, txDone, 0)
def opens (s : SP) (k : List UInt8) : SP × An := ({ s with gm := opM s.gm k }, Lib.decDigits (opN s.gm k), opC' s.gm k)
def admits (s : SP) (k d : List UInt8) : SP × An :=
  match nmL 6 d with
  | none => (s, [], 1)
  | some n => (s, txOk, adC s.gm k n)
def mark (s : SP) (n d : List UInt8) : SP × An :=
  match nmL 6 d with
  | none => (s, [], 1)
  | some k =>
    match fgetL s.tt n with
    | none => (s, [], 6)
    | some x =>
      if x.length < k then (s, [], 2)
      else if mkC ⟨n, k, csum (x.take k)⟩ ≠ 0 then (s, txOk, mkC ⟨n, k, csum (x.take k)⟩)
      else ({ s with tp := apT s.tp (mkX ⟨n, k, csum (x.take k)⟩) }, txOk, apC s.tp (mkX ⟨n, k, csum (x.take k)⟩))
/-- the marks of a tape -/
def marks (b : List UInt8) : List PMk := ((readL b).1.filter fun s => (rdM s).2 == 0).map fun s => (rdM s).1
def far (s : SP) (n : List UInt8) : SP × An := (s, Lib.decDigits (farL n (datOf s.tt n) (marks s.tp.b)).toNat, 0)
def cut (s : SP) (d : List UInt8) : SP × An :=
  match nmL 6 d with
  | none => (s, [], 1)
  | some n => ({ s with tp := ctT s.tp n }, txOk, ctC s.tp n)
def again (s : SP) : SP × An := ({ s with tp := rcT s.tp }, Lib.decDigits (readL s.tp.b).1.length, 0)
end SP
/-- the commands -/
inductive Cmd
  | drop | list | plan | size | send | open | admits | mark | far | cut | again
deriving DecidableEq
def cmdOf (w : List UInt8) : Option Cmd :=
  if w = [100, 114, 111, 112] then some .drop else if w = [108, 105, 115, 116] then some .list else if w = [112, 108, 97, 110] then some .plan
  else if w = [115, 105, 122, 101] then some .size else if w = [115, 101, 110, 100] then some .send else if w = [111, 112, 101, 110] then some .open
  else if w = [97, 100, 109, 105, 116] then some .admits else if w = [109, 97, 114, 107] then some .mark else if w = [102, 97, 114] then some .far
  else if w = [99, 117, 116] then some .cut else if w = [114, 101, 99, 111, 118, 101, 114] then some .again else none
/-- how many words a command has (none: any number) -/
def Cmd.words : Cmd → Option Nat
  | .drop => some 2 | .list => some 1 | .plan => some 0 | .size => some 2 | .send => none | .open => some 1 | .admits => some 2 | .mark => some 2 | .far => some 1 | .cut => some 1 | .again => some 0
namespace SP
def does (s : SP) (c : Cmd) (w : List (List UInt8)) : SP × An :=
  match c, w with
  | .drop, [a, n] => s.drop a n
  | .list, [a] => s.list a
  | .plan, [] => s.plan
  | .size, [n, k] => s.size n k
  | .send, w => s.send w
  | .open, [k] => s.opens k
  | .admits, [k, d] => s.admits k d
  | .mark, [n, d] => s.mark n d
  | .far, [n] => s.far n
  | .cut, [d] => s.cut d
  | .again, [] => s.again
  | _, _ => (s, [], 1)
def wPut : List UInt8 := [112, 117, 116, 32]
def play (s : SP) (line : List UInt8) : SP × An :=
  if wPut.isPrefixOf line then s.put (line.drop 4)
  else match cmdOf ((splC 32 line).headD []) with
    | none => (s, [], 1)
    | some c => if c.words = none ∨ c.words = some ((splC 32 line).length - 1) then s.does c (splC 32 line).tail else (s, [], 1)
/-- the text that is told -/
def told (a : An) : List UInt8 := if a.2 = 0 then a.1 else textOf a.2
def run : SP → List (List UInt8) → List (List UInt8)
  | _, [] => []
  | s, l :: r => told (s.play l).2 :: run (s.play l).1 r
def after : SP → List (List UInt8) → SP
  | s, [] => s
  | s, l :: r => after (s.play l).1 r
def zero : SP := ⟨[], [], [], ⟨[], false, -1⟩⟩
theorem run_append (s : SP) (a b : List (List UInt8)) : s.run (a ++ b) = s.run a ++ (s.after a).run b := by
  induction a generalizing s with
  | nil => rfl
  | cons x a ih => simp only [List.cons_append, run, after, ih]
theorem run_len (s : SP) (a : List (List UInt8)) : (s.run a).length = a.length := by
  induction a generalizing s with
  | nil => rfl
  | cons x a ih => simp only [run, List.length_cons, ih]
/-- those of a beginning are the beginning of those of all -/
theorem run_take (s : SP) (a : List (List UInt8)) (k : Nat) (h : k ≤ a.length) : (s.run a).take k = s.run (a.take k) := by
  have := run_append s (a.take k) (a.drop k)
  rw [List.take_append_drop] at this
  rw [this, List.take_left']
  rw [run_len, List.length_take]
  omega
end SP
end Go.Proofs.YtppkeophochgiaaGreatDoor
/- A line's head: strings.CutPrefix at "put ", and the table's entry of a word. -/
namespace Go.Proofs.YtppkeophochgiaaGreatDoor
open Go.RowKit
set_option linter.unusedVariables false
theorem put_iff (l : List UInt8) : SP.wPut.isPrefixOf l = true ↔ l.take 4 = [112, 117, 116, 32] := by
  rw [List.isPrefixOf_iff_prefix, List.prefix_iff_eq_take]
  exact ⟨fun h => h.symm, fun h => h.symm⟩
theorem put_short {l : List UInt8} (h : l.length < 4) : SP.wPut.isPrefixOf l = false := by
  cases e : SP.wPut.isPrefixOf l with
  | false => rfl
  | true =>
    have := (put_iff l).1 e
    have h2 := congrArg List.length this
    rw [List.length_take] at h2
    simp at h2
    omega
attribute [local irreducible] SP.wPut
set_option maxRecDepth 100000 in
theorem hasput_any (l : List UInt8) (w : World) (hl : l.length ≤ 1000000) :
    Calls Tryz.prog 94 #[.string (bs l), .string ⟨#[112, 117, 116, 32]⟩] w fun e w' => e = .returned (.bool (SP.wPut.isPrefixOf l)) ∧ w = w' := by
  by_cases h4 : 4 ≤ l.length
  · have hI : (4 : Int) ≤ l.length := by omega
    have EX : (bs l).extract 0 4 = bs (l.take 4) := by rw [bs_take, bs_list]
    cases hb : SP.wPut.isPrefixOf l with
    | true =>
      have k1 := tl_eq (l.take 4) [112, 117, 116, 32] ((put_iff l).1 hb)
      clear hb
      go_enter Tryz.func94, Tryz.ntmps94
      go_wp2_with fail
      go_ret
      exact ⟨rfl, rfl⟩
    | false =>
      have k1 := tl_ne (l.take 4) [112, 117, 116, 32] (fun h => by rw [(put_iff l).2 h] at hb; cases hb)
      clear hb
      go_enter Tryz.func94, Tryz.ntmps94
      go_wp2_with fail
      go_ret
      exact ⟨rfl, rfl⟩
  · have hI : ¬ (4 : Int) ≤ l.length := by omega
    rw [put_short (by omega)]
    go_enter Tryz.func94, Tryz.ntmps94
    go_wp2_with fail
    go_ret
    exact ⟨rfl, rfl⟩
set_option maxRecDepth 100000 in
theorem icutput_any (l : List UInt8) (w : World) (hl : l.length ≤ 1000000) :
    Calls Tryz.prog 69 #[.string (bs l), .string ⟨#[112, 117, 116, 32]⟩] w fun e w' => e = .returned (.tuple #[.string (bs (if SP.wPut.isPrefixOf l then l.drop 4 else l)), .bool (SP.wPut.isPrefixOf l)]) ∧ w = w' := by
  have HP := Lib.hid (hasput_any l w hl)
  have EX : (bs l).extract 4 l.length = bs (l.drop 4) := by have := bs_drop (bs l) 4; rwa [bs_list, bs_size] at this
  cases hb : SP.wPut.isPrefixOf l with
  | true =>
    have hI : (4 : Int) ≤ l.length := by
      rcases Nat.lt_or_ge l.length 4 with h | h
      · rw [put_short h] at hb; cases hb
      · omega
    rw [hb] at HP
    simp only [if_true]
    clear hb
    go_enter Tryz.func69, Tryz.ntmps69
    go_wp2_with fail
    refine HP.out.mono ?_
    rintro e w1 ⟨rfl, rfl⟩
    go_wp2_with fail
    go_ret2
    exact ⟨rfl, rfl⟩
  | false =>
    rw [hb] at HP
    simp only [Bool.false_eq_true, if_false]
    clear hb
    go_enter Tryz.func69, Tryz.ntmps69
    go_wp2_with fail
    refine HP.out.mono ?_
    rintro e w1 ⟨rfl, rfl⟩
    go_wp2_with fail
    go_ret2
    exact ⟨rfl, rfl⟩
set_option maxRecDepth 100000 in
theorem cutput_any (l : List UInt8) (w : World) (hl : l.length ≤ 1000000) :
    Calls Tryz.prog 48 #[.string (bs l), .string ⟨#[112, 117, 116, 32]⟩] w fun e w' => e = .returned (.tuple #[.string (bs (if SP.wPut.isPrefixOf l then l.drop 4 else l)), .bool (SP.wPut.isPrefixOf l)]) ∧ w = w' := by
  have HP := Lib.hid (icutput_any l w hl)
  generalize SP.wPut.isPrefixOf l = b at *
  generalize bs (if b = true then l.drop 4 else l) = r at *
  go_enter Tryz.func48, Tryz.ntmps48
  go_wp2_with fail
  refine HP.out.mono ?_
  rintro e w1 ⟨rfl, rfl⟩
  go_wp2_with fail
  go_ret2
  exact ⟨rfl, rfl⟩
/-- a command's method -/
def Cmd.fn : Cmd → Nat
  | .drop => 74 | .list => 75 | .plan => 76 | .size => 77 | .send => 78 | .open => 79 | .admits => 80 | .mark => 81 | .far => 82 | .cut => 83 | .again => 84
/-- how many words, as the table says -/
def Cmd.num (c : Cmd) : Int := match c.words with | none => -1 | some n => n
def Cmd.val (c : Cmd) : Value := .agg #[.int .i64 c.num, .func (.func c.fn) #[] #[]]
theorem bs_iff (a b : List UInt8) : bs a = ⟨b.toArray⟩ ↔ a = b := by
  constructor
  · intro h
    have := congrArg (fun x : ByteArray => x.data.toList) h
    simpa [bs_list] using this
  · rintro rfl; unfold bs; rfl
/-- the table's entry of a word -/
theorem cm_find (x : List UInt8) : rawFind (bs x) cmEs = (cmdOf x).map Cmd.val := by
  unfold cmEs cmdOf
  simp only [rawFind, cmE0, cmE1, cmE2, cmE3, cmE4, cmE5, cmE6, cmE7, cmE8, cmE9, cmE10, bs_iff]
  simp only [apply_ite (Option.map Cmd.val), Option.map_some, Option.map_none]
  rfl
theorem cm_keys : rawKeys cmEs := by
  intro e he
  unfold cmEs at he
  simp only [List.mem_cons, List.not_mem_nil, or_false] at he
  rcases he with rfl | rfl | rfl | rfl | rfl | rfl | rfl | rfl | rfl | rfl | rfl <;> exact ⟨_, rfl⟩
end Go.Proofs.YtppkeophochgiaaGreatDoor
/- The plain laws of a script: what each line keeps; behind a sending both lists are the same. No program is in sight. -/
namespace Go.Proofs.YtppkeophochgiaaGreatDoor
open Go.RowKit
set_option linter.unusedVariables false

structure SInv (s : SP) : Prop where
  fr : Small s.fr
  tt : Small s.tt
  tpb : s.tp.b.length ≤ 1048576
  tpc : -1 ≤ s.tp.cut ∧ s.tp.cut ≤ 9223372036854775807
  gk : ∀ k, glk s.gm k ≤ 2147483648
theorem cutB_len' (c : UInt8) (l : List UInt8) : (cutB c l).length ≤ l.length := by
  unfold cutB
  have : ∀ l : List UInt8, ∀ p, cutC c l = some p → p.2.length ≤ l.length := by
    intro l
    induction l with
    | nil => intro p h; cases h
    | cons b l ih =>
      intro p h
      unfold cutC at h
      by_cases hb : b = c
      · rw [if_pos hb] at h
        cases h
        simp
      · rw [if_neg hb] at h
        obtain ⟨q, hq, rfl⟩ := Option.map_eq_some_iff.1 h
        have := ih q hq
        simp only [List.length_cons]
        omega
  cases h : cutC c l with
  | none => simp
  | some p => exact this l p h
theorem put_small {l : List PF} {n d : List UInt8} (h : Small l) (hp : (putF l n d).1 = 0) (hd : d.length ≤ 200) : Small (fputL l n d) := by
  have h0 := (flFault_wf l).2 h.wf
  rw [putF_ok h0] at hp
  refine ⟨(flFault_wf _).1 hp, fun f hf => ?_⟩
  rcases mem_fputL _ _ _ _ hf with rfl | hf
  · exact hd
  · exact h.len f hf
theorem drop_small {l : List PF} {n : List UInt8} (h : Small l) : Small (dropL l n) := ⟨h.wf.filter _, fun f hf => h.len f (List.mem_filter.1 hf).1⟩
/-- deeds, one behind the other -/
theorem acts_inv {t0 : List PF} (l : List Nat) : ∀ {x : XS}, XInv t0 x → XInv t0 (l.foldl (fun x (n : Nat) => x.act (n : Int)) x) ∧ (l.foldl (fun x (n : Nat) => x.act (n : Int)) x).fr = x.fr := by
  induction l with
  | nil => intro x h; exact ⟨h, rfl⟩
  | cons n l ih =>
    intro x h
    have a := act_law h (n : Int)
    obtain ⟨i1, i2⟩ := ih a.inv
    exact ⟨i1, i2.trans a.fr⟩
theorem sent_law {fr tt : List PF} (hf : Small fr) (ht : Small tt) (l : List Nat) : Small (SP.sent fr tt l) ∧ (SP.sent fr tt l).map PF.line = fr.map PF.line := by
  obtain ⟨s1, s2, s3, s4⟩ := start_inv hf ht
  obtain ⟨a1, a2⟩ := acts_inv l s1
  have FL := fin_law turnsN a1 (.inr (by have := left_le a1; have := turnsN_is; omega))
  have hfr := FL.2.2.1.trans (a2.trans s2)
  have hd := (FL.2.1.done FL.1).1
  rw [hfr] at hd
  exact ⟨FL.2.1.tt, hd⟩
theorem SInv.files {s : SP} (h : SInv s) (b : Bool) : Small (s.files b) := by unfold SP.files; cases b <;> simp [h.fr, h.tt]
theorem SInv.setF {s : SP} (h : SInv s) (b : Bool) {l : List PF} (hl : Small l) : SInv (s.setF b l) := by
  unfold SP.setF
  cases b
  · exact ⟨h.fr, hl, h.tpb, h.tpc, h.gk⟩
  · exact ⟨hl, h.tt, h.tpb, h.tpc, h.gk⟩
theorem apT_top (d : TP) (s : List UInt8) (h : d.b.length ≤ 1048576) : (apT d s).b.length ≤ 1048576 := by
  unfold apT
  by_cases h1 : 20000 < s.length
  · rw [if_pos h1]; exact h
  · rw [if_neg h1]
    by_cases h2 : 1048576 < d.b.length + (recL s).length
    · rw [if_pos h2]; exact h
    · rw [if_neg h2]
      have := wrT_len d (recL s)
      omega
theorem glk_put (m : GM) (k : List UInt8) (v : Nat) (j : List UInt8) : glk (gput m k v) j = if j = k then v else glk m j := by
  induction m with
  | nil =>
    unfold gput glk glk
    by_cases h : k = j
    · rw [if_pos h, if_pos h.symm]
    · rw [if_neg h, if_neg (fun e => h e.symm)]
  | cons p m ih =>
    unfold gput
    by_cases h : p.1 = k
    · rw [if_pos h]
      unfold glk
      by_cases h2 : k = j
      · rw [if_pos h2, if_pos h2.symm]
      · rw [if_neg h2, if_neg (fun e => h2 e.symm), if_neg (by rw [h]; exact h2)]
    · rw [if_neg h]
      unfold glk
      rw [ih]
      by_cases h2 : p.1 = j
      · rw [if_pos h2, if_pos h2, if_neg (by rw [← h2]; exact h)]
      · rw [if_neg h2, if_neg h2]
theorem SInv.drop {s : SP} (h : SInv s) (a n : List UInt8) : SInv (s.drop a n).1 := by
  unfold SP.drop
  cases sideW a with
  | none => exact h
  | some b =>
    simp only []
    split
    · exact h.setF b (drop_small (h.files b))
    · exact h
theorem SInv.list {s : SP} (h : SInv s) (a : List UInt8) : SInv (s.list a).1 := by
  unfold SP.list
  cases sideW a <;> exact h
theorem SInv.size {s : SP} (h : SInv s) (a n : List UInt8) : SInv (s.size a n).1 := by
  unfold SP.size
  cases nmL 6 n with
  | none => exact h
  | some z => simp only []; split <;> exact h
theorem SInv.send {s : SP} (h : SInv s) (w : List (List UInt8)) : SInv (s.send w).1 := by
  unfold SP.send
  cases SP.nums w with
  | none => exact h
  | some l => exact ⟨h.fr, (sent_law h.fr h.tt l).1, h.tpb, h.tpc, h.gk⟩
theorem SInv.opens {s : SP} (h : SInv s) (k : List UInt8) : SInv (s.opens k).1 := by
  refine ⟨h.fr, h.tt, h.tpb, h.tpc, fun j => ?_⟩
  show glk (opM s.gm k) j ≤ _
  have hj := h.gk j
  have hk := h.gk k
  by_cases h1 : mayC s.gm k = 0
  · by_cases h2 : 2147483648 ≤ glk s.gm k
    · rw [(op_top h1 h2).2.2]; exact hj
    · rw [(op_ok h1 h2).2.2, glk_put]
      split
      · omega
      · exact hj
  · rw [(op_may h1).2.2]; exact hj
theorem SInv.admits {s : SP} (h : SInv s) (k d : List UInt8) : SInv (s.admits k d).1 := by
  unfold SP.admits
  cases nmL 6 d <;> exact h
theorem SInv.mark {s : SP} (h : SInv s) (n d : List UInt8) : SInv (s.mark n d).1 := by
  unfold SP.mark
  cases nmL 6 d with
  | none => exact h
  | some k =>
    cases fgetL s.tt n with
    | none => exact h
    | some x =>
      simp only []
      split
      · exact h
      · split
        · exact h
        · exact ⟨h.fr, h.tt, apT_top _ _ h.tpb, apT_cut _ _ h.tpc, h.gk⟩
theorem SInv.cut {s : SP} (h : SInv s) (d : List UInt8) (hd : ∀ n, nmL 6 d = some n → n ≤ 1000000) : SInv (s.cut d).1 := by
  unfold SP.cut
  cases e : nmL 6 d with
  | none => exact h
  | some n =>
    have hn := hd n e
    refine ⟨h.fr, h.tt, ?_, ?_, h.gk⟩
    · show (ctT s.tp n).b.length ≤ _
      unfold ctT
      split
      · exact h.tpb
      · split <;> exact h.tpb
    · show -1 ≤ (ctT s.tp n).cut ∧ (ctT s.tp n).cut ≤ _
      unfold ctT
      split
      · exact h.tpc
      · split
        · exact h.tpc
        · show -1 ≤ (n : Int) ∧ (n : Int) ≤ _; omega
theorem SInv.again {s : SP} (h : SInv s) : SInv s.again.1 := by
  refine ⟨h.fr, h.tt, ?_, ?_, h.gk⟩
  · show (rcT s.tp).b.length ≤ _
    have := h.tpb
    unfold rcT
    simp only [List.length_take]
    omega
  · show -1 ≤ (rcT s.tp).cut ∧ (rcT s.tp).cut ≤ _
    unfold rcT
    simp only []
    omega
theorem SInv.does {s : SP} (h : SInv s) (c : Cmd) (w : List (List UInt8)) (hd : ∀ d ∈ w, ∀ n, nmL 6 d = some n → n ≤ 1000000) : SInv (s.does c w).1 := by
  have hs : s.does .send w = s.send w := by
    rcases w with _ | ⟨a, _ | ⟨b, _ | ⟨c, w⟩⟩⟩ <;> rfl
  rcases w with _ | ⟨a, _ | ⟨b, _ | ⟨d, w⟩⟩⟩ <;> cases c
  all_goals first
    | exact h
    | (rw [hs]; exact h.send _)
    | exact h.drop _ _
    | exact h.list _
    | exact h.size _ _
    | exact h.opens _
    | exact h.admits _ _
    | exact h.mark _ _
    | exact h.cut _ (hd _ (by simp))
    | exact h.again
/-- each line keeps what holds -/
theorem play_inv {s : SP} (h : SInv s) (line : List UInt8) (hl : line.length ≤ 200) (hd : ∀ d n, nmL 6 d = some n → n ≤ 1000000) : SInv (s.play line).1 := by
  unfold SP.play
  by_cases hp : SP.wPut.isPrefixOf line = true
  · rw [if_pos hp]
    unfold SP.put
    cases hs : sideW (cutA 32 (line.drop 4)) with
    | none => exact h
    | some b =>
      simp only []
      split
      · exact h
      · split
        · rename_i h1 h2
          exact h.setF b (put_small (h.files b) h2 (by
            have a := cutB_len' 32 (cutB 32 (line.drop 4))
            have b := cutB_len' 32 (line.drop 4)
            have c : (line.drop 4).length ≤ line.length := by simp
            omega))
        · exact h
  · rw [if_neg hp]
    cases hc : cmdOf ((splC 32 line).headD []) with
    | none => exact h
    | some c =>
      simp only []
      split
      · exact h.does c _ (fun d _ => hd d)
      · exact h
theorem zero_inv : SInv SP.zero := ⟨⟨⟨by simp [SP.zero], by simp [SP.zero], List.Pairwise.nil⟩, by simp [SP.zero]⟩, ⟨⟨by simp [SP.zero], by simp [SP.zero], List.Pairwise.nil⟩, by simp [SP.zero]⟩, by simp [SP.zero], by simp [SP.zero], fun k => by simp [SP.zero, glk]⟩
end Go.Proofs.YtppkeophochgiaaGreatDoor
/- Contracts of tape's write, record, Append. -/
namespace Go.Proofs.YtppkeophochgiaaGreatDoor
open Go.RowKit
set_option linter.unusedVariables false

theorem strC (l : List UInt8) (s : ByteArray) : l.map bv ++ Lib.strCells s = (l ++ s.data.toList).map bv := by
  rw [← bs_of s, strCells_bs, bs_list, List.map_append]
/-- a store into a disk's field: what a walk reads -/
theorem DiskAt.grownc {w w1 : World} {base db : Nat} {v : Value} {d : TP} (h : DiskAt w base db v d) (hg : w.grownBy w1 v.ownBlock) : w1.cell? ⟨db, 0, none⟩ = some v ∧ w1.frozen? ⟨db, 0, none⟩ = false := by
  have hcell : w1.heap[db]? = some (.cells #[v, .bool d.off, .int .i64 d.cut] 109 (0, 0)) := (hg.block db h.lt (fun e => h.ne e.symm)).trans h.cells
  exact ⟨by simp [World.cell?, hcell], by simp [World.frozen?, hcell]⟩
set_option maxRecDepth 100000 in
set_option maxHeartbeats 6400000 in
theorem dwrite_any (E : Nat → Addr) (base db : Nat) (v : Value) (d : TP) (s : List UInt8) (w : World) (h : DiskAt w base db v d) (hs : s.length ≤ 1000000000) (hb : d.b.length ≤ 1000000000) (hO : Has E w 12) (hg12 : gOf 12 < base) (hbase : base ≤ w.heap.size) :
    Calls Tryz.prog 165 #[.pointer (some ⟨db, 0, none⟩), .string (bs s)] w fun e w' => e = .returned (ev E (wrC d s)) ∧ DiskTo w w' base db v (wrT d s) := by
  obtain ⟨⟨c0, c1, c2⟩, cf⟩ := h.cs
  have f0 := cf 0
  have f1 := cf 1
  have f2 := cf 2
  have cO : w.cell? ⟨11, 0, none⟩ = some (errv (E 12)) := hO
  have HD := Lib.hid h
  have HBL := Lib.hid hb
  have hcut := h.cut
  have hdl := h.lt
  obtain ⟨va, vc, hv⟩ := h.val
  obtain ⟨i0, hi, hz0, hz1, hz2⟩ := info_parts infoU8
  have hsz : (bs s).size = s.length := bs_size s
  clear h hO cf
  cases ho : d.off with
  | true =>
    have e1 : wrC d s = 12 := by unfold wrC; rw [if_pos ho]
    have e2 : wrT d s = d := by unfold wrT; rw [if_pos ho]
    rw [e1, e2, ev_is E (by decide)]
    rw [ho] at c1
    clear e1 e2 ho
    go_enter Tryz.func165, Tryz.ntmps165
    go_wp2_with fail
    go_ret
    exact ⟨rfl, DiskTo.same HD.out (Below.refl _ _)⟩
  | false =>
    rw [ho] at c1
    by_cases hc : 0 ≤ d.cut ∧ d.cut < s.length
    · obtain ⟨hc1, hc2⟩ := hc
      have e1 : wrC d s = 12 := by unfold wrC; rw [if_neg (by simp [ho]), if_pos ⟨hc1, hc2⟩]
      have e2 : wrT d s = ⟨d.b ++ s.take d.cut.toNat, true, d.cut⟩ := by unfold wrT; rw [if_neg (by simp [ho]), if_pos ⟨hc1, hc2⟩]
      rw [e1, e2, ev_is E (by decide)]
      clear e1 e2
      obtain ⟨k, hk⟩ := Int.eq_ofNat_of_zero_le hc1
      rw [hk] at c2 hc2
      have hkI : (k : Int) < (bs s).size := by omega
      have hk0 : (0 : Int) ≤ k := by omega
      have hkl : (k : Int) ≤ s.length := by omega
      have hklN : k ≤ s.length := by omega
      have E1 : (bs s).extract 0 k = bs (s.take k) := by rw [bs_take, bs_list]
      have e3 : d.cut.toNat = k := by omega
      have HK := Lib.hid hk
      have OWN := Lib.hid HD.out.buf
      have HN1 : Hid ((d.b.map bv).length + (bs (s.take k)).size ≤ 140737488355328) := by show _ ≤ _; rw [List.length_map, bs_size, List.length_take]; omega
      have TAIL := Lib.hid (fun (w1 : World) (v' : Value) (hb' : BufIs w1 base 5 v' (d.b.map bv ++ Lib.strCells (bs (s.take k)))) (hg : w.grownBy w1 v.ownBlock) (ha : v'.ownBlock = v.ownBlock ∨ v'.ownBlock = some w.heap.size) => show DiskTo w ((w1.setCell ⟨db, 0, none⟩ v').setCell ⟨db, 1, none⟩ (.bool true)) base db v ⟨d.b ++ s.take k, true, d.cut⟩ from by
        rw [strC, bs_list] at hb'
        exact (HD.out.setbuf hb' hg ha).trans fun v2 h2 => DiskTo.of (h2.off true).1 (h2.off true).2)
      have C0 := Lib.hid (fun (w1 : World) (hg : w.grownBy w1 v.ownBlock) => HD.out.grownc hg)
      have C1 := Lib.hid (fun (w1 : World) (v' : Value) (hg : w.grownBy w1 v.ownBlock) => show (w1.setCell ⟨db, 0, none⟩ v').cell? ⟨db, 1, none⟩ = some (.bool false) ∧ (w1.setCell ⟨db, 0, none⟩ v').frozen? ⟨db, 1, none⟩ = false from by
        have hcell := (hg.block db HD.out.lt (fun e => HD.out.ne e.symm)).trans HD.out.cells
        have h2 := set_at (k := 0) (u := v') hcell
        exact ⟨by simp [World.cell?, h2, ho], by simp [World.frozen?, h2]⟩)
      have CO := Lib.hid (fun (w1 : World) (v' x : Value) (hg : w.grownBy w1 v.ownBlock) => show ((w1.setCell ⟨db, 0, none⟩ v').setCell ⟨db, 1, none⟩ x).cell? ⟨11, 0, none⟩ = some (errv (E 12)) from by
        have n1 : 11 ≠ db := by have := HD.out.lo; have : gOf 12 = 11 := rfl; omega
        have n2 : v.ownBlock ≠ some 11 := fun e => by have := (HD.out.buf.at e).1; have : gOf 12 = 11 := rfl; omega
        rw [World.cell?_setCell_other _ _ _ _ (fun e => n1 (congrArg Addr.block e).symm), World.cell?_setCell_other _ _ _ _ (fun e => n1 (congrArg Addr.block e).symm)]
        have h1 := hg.block 11 (World.block_lt_of_cell? w _ cO) (fun e => n2 e.symm)
        simp only [World.cell?, h1] at cO ⊢
        exact cO)
      rw [e3]
      clear hk ho hc1 e3 hb hsz
      subst hv
      go_enter Tryz.func165, Tryz.ntmps165
      go_wp2_with fail
      go_region_law (refine step_append_buf rfl (.tmp 28) (.tmp 34) 107 9 rfl base 5 i0 Tryz.underlying107 Tryz.underlying9 hi hz0 hz1 hz2 (.slice va d.b.length vc) (d.b.map bv) rfl OWN.out.drew (bs (s.take k)) rfl HN1.out hbase ?_; intro v' w5 hb5 hg5 ha5; have HB5 := Lib.hid hb5; have HG5 := Lib.hid (grown_undrew hg5); have HA5 := Lib.hid ha5; obtain ⟨c5, f5⟩ := C0.out w5 (grown_undrew hg5); obtain ⟨c6, f6⟩ := C1.out w5 v' (grown_undrew hg5); have c7 := CO.out w5 v' (.bool true) (grown_undrew hg5); obtain ⟨va', vn', vc', rfl⟩ := hb5.val3; clear hb5 hg5 ha5)
      all_goals
        go_wp2_with fail
        go_ret
        exact ⟨rfl, TAIL.out _ _ HB5.out HG5.out HA5.out⟩
    · have e1 : wrC d s = 0 := by unfold wrC; rw [if_neg (by simp [ho]), if_neg hc]
      have e2 : wrT d s = ⟨d.b ++ s, d.off, if 0 ≤ d.cut then d.cut - s.length else d.cut⟩ := by unfold wrT; rw [if_neg (by simp [ho]), if_neg hc]
      rw [e1, e2, ev_zero]
      clear e1 e2
      have HN1 : Hid ((d.b.map bv).length + (bs s).size ≤ 140737488355328) := by show _ ≤ _; rw [List.length_map, bs_size]; omega
      by_cases hc1 : 0 ≤ d.cut
      · rw [if_pos hc1]
        obtain ⟨T1, C1⟩ := HD.out.setcut (d.cut - s.length) (by omega)
        have hcI : ¬ d.cut < (s.length : Int) := by omega
        have hw1 : IntKind.i64.wrap (d.cut - s.length) = d.cut - s.length := IntWalk.i64_in _ (by omega)
        have TAIL := Lib.hid (fun (w1 : World) (v' : Value) (hb' : BufIs w1 base 5 v' (d.b.map bv ++ Lib.strCells (bs s))) (hg : (w.setCell ⟨db, 2, none⟩ (.int .i64 (d.cut - s.length))).grownBy w1 v.ownBlock) (ha : v'.ownBlock = v.ownBlock ∨ v'.ownBlock = some (w.setCell ⟨db, 2, none⟩ (.int .i64 (d.cut - s.length))).heap.size) => show DiskTo w (w1.setCell ⟨db, 0, none⟩ v') base db v ⟨d.b ++ s, d.off, d.cut - s.length⟩ from by
          rw [strC, bs_list] at hb'
          exact (DiskTo.of T1 C1).trans (fun v2 h2 => by
            have e := h2.cells
            rw [T1.cells] at e
            obtain rfl : v = v2 := by simpa using e
            exact h2.setbuf hb' hg ha))
        have OWN := Lib.hid T1.buf
        have C0 := Lib.hid (fun (w1 : World) (hg : (w.setCell ⟨db, 2, none⟩ (.int .i64 (d.cut - s.length))).grownBy w1 v.ownBlock) => T1.grownc hg)
        have hb2 : base ≤ (w.setCell ⟨db, 2, none⟩ (.int .i64 (d.cut - s.length))).heap.size := by simpa [World.setCell] using hbase
        generalize d.cut = c at *
        clear T1 C1 hc ho
        subst hv
        go_enter Tryz.func165, Tryz.ntmps165
        go_wp2_with (at_builtin; refine wpList_append_buf rfl _ _ 107 9 rfl base 5 i0 Tryz.underlying107 Tryz.underlying9 hi hz0 hz1 hz2 (.slice va d.b.length vc) (d.b.map bv) rfl OWN.out (bs s) rfl HN1.out hb2 ?_; intro v' w5 hb5 hg5 ha5; have HB5 := Lib.hid hb5; have HG5 := Lib.hid hg5; have HA5 := Lib.hid ha5; obtain ⟨c5, f5⟩ := C0.out w5 hg5; obtain ⟨va', vn', vc', rfl⟩ := hb5.val3; clear hb5 hg5 ha5)
        go_ret
        exact ⟨rfl, TAIL.out _ _ HB5.out HG5.out HA5.out⟩
      · rw [if_neg hc1]
        have hcI : d.cut < 0 := by omega
        have TAIL := Lib.hid (fun (w1 : World) (v' : Value) (hb' : BufIs w1 base 5 v' (d.b.map bv ++ Lib.strCells (bs s))) (hg : w.grownBy w1 v.ownBlock) (ha : v'.ownBlock = v.ownBlock ∨ v'.ownBlock = some w.heap.size) => show DiskTo w (w1.setCell ⟨db, 0, none⟩ v') base db v ⟨d.b ++ s, d.off, d.cut⟩ from by
          rw [strC, bs_list] at hb'
          exact HD.out.setbuf hb' hg ha)
        have OWN := Lib.hid HD.out.buf
        have C0 := Lib.hid (fun (w1 : World) (hg : w.grownBy w1 v.ownBlock) => HD.out.grownc hg)
        generalize d.cut = c at *
        clear hc ho
        subst hv
        go_enter Tryz.func165, Tryz.ntmps165
        go_wp2_with (at_builtin; refine wpList_append_buf rfl _ _ 107 9 rfl base 5 i0 Tryz.underlying107 Tryz.underlying9 hi hz0 hz1 hz2 (.slice va d.b.length vc) (d.b.map bv) rfl OWN.out (bs s) rfl HN1.out hbase ?_; intro v' w5 hb5 hg5 ha5; have HB5 := Lib.hid hb5; have HG5 := Lib.hid hg5; have HA5 := Lib.hid ha5; obtain ⟨c5, f5⟩ := C0.out w5 hg5; obtain ⟨va', vn', vc', rfl⟩ := hb5.val3; clear hb5 hg5 ha5)
        go_ret
        exact ⟨rfl, TAIL.out _ _ HB5.out HG5.out HA5.out⟩
theorem rec_any (E : Nat → Addr) (s : List UInt8) (w : World) (hw : LibW E w) (hs : s.length ≤ 1000000000) :
    Calls Tryz.prog 164 #[.string (bs s)] w fun e w' => e = .returned (.string (bs (recL s))) ∧ Below w.heap.size w w' := by
  have HI := Lib.hid (itoa_any E s.length w hw (by omega))
  have hl20 := dec_len_le (n := s.length) (k := 18) (by omega)
  have h1 : ¬ 9223372036854775807 < (Lib.decDigits s.length).length + 1 := by omega
  have h2 : ¬ 9223372036854775807 < (Lib.decDigits s.length).length + 1 + s.length := by omega
  have h3 : ¬ 9223372036854775807 < (Lib.decDigits s.length).length + 1 + s.length + 2 := by omega
  clear hl20
  go_enter Tryz.func164, Tryz.ntmps164
  go_wp2_with fail
  refine HI.out.mono ?_
  rintro e w1 ⟨rfl, b1⟩
  go_wp2_with fail
  go_ret
  refine ⟨?_, b1⟩
  apply ret_string
  apply eq_bs
  simp [recL, bs_list]
end Go.Proofs.YtppkeophochgiaaGreatDoor
