/- A statement inside a round of a range over a function: its orders are walked as those of a lone goroutine. -/
import Derived.RangeFuncCalls
import Derived.OrdersHeld
import Derived.OrdersIn
import Derived.TacticsIn
import Derived.Deep.RegionHeld
namespace Go.Proofs.YtkjcclbnbbbfaaaGreatDoor

/-- it defers nothing -/
def undeferred (ops : Array Oper) : Bool := ops.toList.all fun o => match o.op with | .defer _ => false | _ => true
theorem undeferred_is {ops : Array Oper} (h : undeferred ops = true) {i : Nat} {o : Oper} (ho : ops[i]? = some o) : ∀ c, o.op ≠ .defer c := by
  intro c e
  have := List.all_eq_true.1 h o (by simpa using (Array.mem_of_getElem? ho))
  rw [e] at this
  cases this
/-- nothing but a plain end -/
def Plainly (K : Act → World → Prop) : Exit → Act → World → Prop := fun e a w => e = .normal ∧ K a w
theorem op_of_lone {P : Program} {ops : Array Oper} {l n : Nat} {Q : Exit → Act → World → Prop} {K : Act → World → Prop} (hd : undeferred ops = true) {i : Nat} {K1 K2 : Act → World → Prop} (hk : ∀ a w, K1 a w → K2 a w) {a : Act} {w : World}
    (h : wpOp P ops (Plainly K) i K1 a w) : wpOpIn (Fence.wide.inRound l) n P ops Q i K2 a w := by
  unfold wpOp at h
  unfold wpOpIn
  cases ho : ops[i]? with
  | none => rw [ho] at h; exact hk _ _ h
  | some o =>
    rw [ho] at h
    simp only at h ⊢
    by_cases hw : Region.wanted o (yielded ops a.tmps) = true
    · rw [if_pos hw] at h ⊢
      have hlet : ¬ LetsOut (Plainly K) := by
        intro hl
        unfold LetsOut at hl
        have := hl
        simp [Plainly] at this
      rcases h with h | ⟨_, hl⟩
      · refine ⟨fun f _ => trivial, ?_⟩
        show Oper.uponIn _ _ _ _ _ _ _ ((Oper.semAt (some l) a.eval o).run P w)
        rw [Oper.semAt_some l a.eval o (undeferred_is hd ho)]
        unfold Oper.wp at h
        generalize (execOp a.eval o).run P w = r at *
        cases r with
        | ok x w' =>
          cases x <;> simp only [Oper.upon] at h
          case value u => exact hk _ _ h
          case skip => exact hk _ _ h
          case defer d => exact hk _ _ h
          case enter f args =>
            refine ⟨fun hdep => by simp [Fence.wide] at hdep, CallsIn.inRound l (callsIn_wide.2 (h.mono fun e w'' he => ?_))⟩
            cases e with
            | returned u => exact hk _ _ he
            | panicked c => exact absurd he.1 (by simp)
            | outgrown => exact absurd he hlet
          case row row args =>
            refine ⟨fun hdep => by simp [Fence.wide] at hdep, fun c cs _ => ?_⟩
            obtain ⟨v, w'', hr, hs⟩ := h c cs
            exact ⟨v, w'', hk _ _ hr, stepsIn_wide.2 hs⟩
        | halt x w' =>
          cases x <;> simp only [Oper.upon] at h
          case panic u => exact absurd h.1 (by simp)
      · exact absurd hl hlet
    · rw [if_neg hw] at h ⊢
      exact ⟨fun f _ => trivial, hk _ _ h⟩
theorem any_of_lone {P : Program} {md : Region.Mode} {ops : Array Oper} {l n : Nat} {Q : Exit → Act → World → Prop} {K : Act → World → Prop} (hd : undeferred ops = true) (hq : ∀ a w, K a w → Q .normal a w) :
    ∀ (fuel : Nat) (listed : Array Bool) (a : Act) (w : World), wpAny P md ops (Plainly K) fuel listed a w → wpAnyIn (Fence.wide.inRound l) n P md ops Q fuel listed a w
  | 0, _, _, _, h => ⟨h.1, hq _ _ h.2.2⟩
  | fuel + 1, _, _, _, h => ⟨fun h0 => hq _ _ (h.1 h0).2, fun i hi => op_of_lone hd (fun a w => any_of_lone hd hq fuel _ a w) (h.2 i hi)⟩
/-- a statement that draws its order, in a round -/
theorem region_of_lone {P : Program} {id : Nat} {ops : Array Oper} {a : Act} {w : World} {l n : Nat} {Q : Exit → Act → World → Prop} (S : World → Prop) (hm : P.follows .mixedOrders = true) (hd : undeferred ops = true) (hS : S w.drew)
    (h : S w.drew → wpAnyH P .any ops (Plainly (Q .normal)) S ops.size (Array.replicate ops.size false) a w.drew) : (Code.region id ops true).wpIn (Fence.wide.inRound l) n P Q a w := by
  refine wpIn_region_any hm ?_
  exact any_of_lone hd (fun _ _ h => h) _ _ _ _ (wpAny_of_held _ _ _ _ (h hS))
theorem Plainly.mk {K : Act → World → Prop} {a : Act} {w : World} (h : K a w) : Plainly K .normal a w := ⟨rfl, h⟩
end Go.Proofs.YtkjcclbnbbbfaaaGreatDoor
