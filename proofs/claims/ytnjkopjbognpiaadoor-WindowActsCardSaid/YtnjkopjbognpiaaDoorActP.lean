/- Plain laws of what a sender keeps: each number once, in order. -/
import Derived.Test.YtnjkopjbognpiaaDoorActS
namespace Go.Proofs.YtnjkopjbognpiaaDoor
open Go.RowKit
set_option linter.unusedVariables false

def SndI (next : Int) (l : List PK) : Prop := (∀ k ∈ l, 1 ≤ md (next - k.n) ∧ md (next - k.n) ≤ 32) ∧ l.Pairwise fun a b => md (next - b.n) < md (next - a.n)
theorem SndI.nil (next : Int) : SndI next [] := ⟨by simp, List.Pairwise.nil⟩
theorem SndI.sub {next : Int} {l l' : List PK} (h : SndI next l) (hs : l'.Sublist l) : SndI next l' := ⟨fun k hk => h.1 k (hs.subset hk), h.2.sublist hs⟩
theorem SndI.take {next : Int} {l : List PK} (h : SndI next l) (nx : Int) (more : List Int) : SndI next (sTake next l nx more) := by
  cases l with
  | nil => exact h
  | cons o r => rw [sTake_cons]; exact h.sub List.filter_sublist
theorem SndI.push {next : Int} {l : List PK} (h : SndI next l) (hn : 0 ≤ next ∧ next < 65536) (hk : KOk l) (s : List UInt8) : SndI (pushX (pushC next l s) next) (pushL (pushC next l s) next l s) := by
  by_cases hc : pushC next l s = 0
  · rw [hc]
    have hall : ∀ k ∈ l, md (next - k.n) < 32 := by
      cases l with
      | nil => simp
      | cons o r =>
        have h0 : md (next - o.n) < 32 := by
          unfold pushC at hc
          split at hc
          · cases hc
          · simp only at hc
            split at hc
            · cases hc
            · omega
        intro k hkm
        rcases List.mem_cons.1 hkm with rfl | hkm
        · exact h0
        · have := (List.pairwise_cons.1 h.2).1 k hkm; omega
    have e1 : pushX 0 next = md (next + 1) := rfl
    have e2 : pushL 0 next l s = l ++ [⟨next, s⟩] := rfl
    rw [e1, e2]
    have step : ∀ k ∈ l, md (md (next + 1) - k.n) = md (next - k.n) + 1 := fun k hkm => by
      have a := h.1 k hkm
      have b := hall k hkm
      have c := hk k hkm
      unfold md at *
      omega
    have last : md (md (next + 1) - next) = 1 := by unfold md; omega
    refine ⟨fun k hkm => ?_, ?_⟩
    · rcases List.mem_append.1 hkm with hkm | hkm
      · rw [step k hkm]; have := h.1 k hkm; have := hall k hkm; omega
      · simp at hkm; subst hkm; rw [last]; omega
    · rw [List.pairwise_append]
      refine ⟨?_, List.pairwise_singleton _ _, fun a ha b hb => ?_⟩
      · exact h.2.imp_of_mem (fun {a b} ha hb hab => by rw [step a ha, step b hb]; omega)
      · simp at hb; subst hb; simp only; rw [last, step a ha]; have := h.1 a ha; omega
  · have e1 : pushX (pushC next l s) next = next := by unfold pushX; rw [if_neg hc]
    have e2 : pushL (pushC next l s) next l s = l := by unfold pushL; rw [if_neg hc]
    rw [e1, e2]; exact h
theorem pushC_le (next : Int) (l : List PK) (s : List UInt8) : pushC next l s ≤ 12 := by
  unfold pushC
  split
  · omega
  · split
    · omega
    · split <;> omega
theorem dataS_find {next : Int} {l : List PK} (h : SndI next l) : ∀ (i : Nat) (hi : i < l.length), dataS l (l[i]'hi).n = some (l[i]'hi).d := by
  induction l with
  | nil => intro i hi; simp at hi
  | cons x l ih =>
    intro i hi
    have hp := List.pairwise_cons.1 h.2
    match i, hi with
    | 0, hi => exact dataS_yes (l := x :: l) (k := 0) hi rfl
    | i + 1, hi =>
      have hi' : i < l.length := by simpa using hi
      have hne : x.n ≠ (l[i]'hi').n := fun e => by
        have := hp.1 _ (List.getElem_mem hi')
        rw [e] at this; omega
      have e1 := dataS_no (l := x :: l) (n := (l[i]'hi').n) (k := 0) (by simp) hne
      have e2 := ih (h.sub (List.sublist_cons_self x l)) i hi'
      show dataS (x :: l) (l[i]'hi').n = some (l[i]'hi').d
      rw [dataS_start, e1]
      exact e2
theorem dataS_neg {l : List PK} (hk : KOk l) : dataS l (-1) = none := by
  have : ∀ k : Nat, k ≤ l.length → dataS (l.drop (l.length - k)) (-1) = none := by
    intro k
    induction k with
    | zero => intro _; exact dataS_end (by omega)
    | succ k ih =>
      intro hkl
      have hlt : l.length - (k + 1) < l.length := by omega
      rw [dataS_no hlt (by have := hk _ (List.getElem_mem hlt); omega)]
      have e : l.length - (k + 1) + 1 = l.length - k := by omega
      rw [e]; exact ih (by omega)
  have := this l.length (Nat.le_refl _)
  rwa [Nat.sub_self, List.drop_zero] at this
theorem sameInts_yes (v1 v2 : Value) (L : List Int) (w : World) (h1 : SliceIs w v1 1 (intV L)) (h2 : SliceIs w v2 1 (intV L)) : Calls Tryd.prog 20 #[v1, v2] w fun e w' => e = .returned (.bool true) ∧ Below w.heap.size w w' := by
  refine (sameInts_is v1 v2 L L w h1 h2).mono ?_
  rintro e w' ⟨rfl, d⟩
  exact ⟨by rw [beq_self_eq_true], d.below _⟩
theorem sameTexts_yes (v1 v2 : Value) (L : List (List UInt8)) (w : World) (h1 : SliceIs w v1 1 (txtV L)) (h2 : SliceIs w v2 1 (txtV L)) : Calls Tryd.prog 17 #[v1, v2] w fun e w' => e = .returned (.bool true) ∧ Below w.heap.size w w' := by
  refine (sameTexts_is v1 v2 L L w h1 h2).mono ?_
  rintro e w' ⟨rfl, d⟩
  exact ⟨by rw [beq_self_eq_true], d.below _⟩
/-- all that holds at a loop's head -/
structure WState (w0 w : World) (sb rb mb ms mr k : Nat) (U : Nat → Prop) (N : Nat) (next : Int) (l : List PK) (due : Int) (m : List (Int × List UInt8)) (lD : List PK) : Prop where
  wa : WA w0 w U sb rb mb ms mr N next l due m next l due lD
  hN : N ≤ k
  ord : SndI next l
  wait : SameWait m lD
  nod : Nod lD
  few : lD.length ≤ k
theorem WState.below {w0 w w' : World} {sb rb mb ms mr k : Nat} {U : Nat → Prop} {N : Nat} {next due : Int} {l lD : List PK} {m : List (Int × List UInt8)} (h : WState w0 w sb rb mb ms mr k U N next l due m lD) (hb : Below w.heap.size w w') : WState w0 w' sb rb mb ms mr k U N next l due m lD :=
  ⟨h.wa.below hb, h.hN, h.ord, h.wait, h.nod, h.few⟩
theorem WState.start {w0 w1 w2 w3 : World} {sb rb mb : Nat} {st : Int} {F : Nat → Prop} (h : WinS w0 w1 F sb rb mb 0 st [] st []) {ms mr : Nat}
    (hs : w3.heap[ms]? = some (.cells #[.int .i64 st, .slice none 0 0, .slice none 0 0] 34 (0, 0))) (hr : w3.heap[mr]? = some (.cells #[.int .i64 st, .slice none 0 0, .slice none 0 0] 37 (0, 0)))
    (hb : Below w1.heap.size w1 w3) (h1 : w1.heap.size ≤ ms) (h2 : w1.heap.size ≤ mr) (h3 : ms ≠ mr) :
    ∃ U, WState w0 w3 sb rb mb ms mr 0 U 0 st [] st [] [] := by
  have box : ∀ (T : TypeId) (b : Nat), w1.heap.size ≤ b → w3.heap[b]? = some (.cells #[.int .i64 st, .slice none 0 0, .slice none 0 0] T (0, 0)) → BoxS T w0 w3 (fun y => y = b) b st [] [] := fun T b hb' hc =>
    ⟨.slice none 0 0, .slice none 0 0, ⟨hc, World.ownsRow_nil _ _ _ _, World.ownsRow_nil _ _ _ _, by have := h.bel.size; omega, by simp [Value.ownBlock], by simp [Value.ownBlock], by simp [Value.ownBlock]⟩, fun y hy => by
      rcases hy with hy | hy | hy
      · exact hy
      · simp [Value.ownBlock] at hy
      · simp [Value.ownBlock] at hy⟩
  have l1 := lt_of_block hs
  have l2 := lt_of_block hr
  have := h.bel.size
  refine ⟨fun y => F y ∨ y = ms ∨ y = mr, ⟨⟨F, fun y => y = ms, fun y => y = mr, h.below hb, box _ _ h1 hs, box _ _ h2 hr, fun y hy => ?_, fun y hy => ?_, fun y hy => hy⟩, fun y hy => ?_, below_trans' h.bel hb⟩, Nat.le_refl _, SndI.nil _, fun _ => rfl, List.nodup_nil, Nat.le_refl _⟩
  · have := (h.lo y hy).2; omega
  · omega
  · have hh := hb.size
    rcases hy with hy | hy | hy
    · have := h.lo y hy; omega
    · omega
    · omega
/-- a copy of an act stays -/
theorem act_kept {w w' : World} {U U' : Nat → Prop} {xb : Nat} {cs : Array Value} {t : TypeId} (h : w.heap[xb]? = some (.cells cs t (0, 0))) (hl : Later w w' U U') (hx : ¬ U xb) : w'.heap[xb]? = some (.cells cs t (0, 0)) ∧ ¬ U' xb := by
  have hlt := lt_of_block h
  refine ⟨(hl.1.block xb hlt hx).trans h, fun hu => ?_⟩
  rcases hl.2 xb hu with h1 | h1
  · exact hx h1
  · omega
end Go.Proofs.YtnjkopjbognpiaaDoor
