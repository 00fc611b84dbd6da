/- The receivers' calls once more: what was told lies apart from all boxes. -/
import Derived.Test.YtnjkopjbognpiaaDoorActP
namespace Go.Proofs.YtnjkopjbognpiaaDoor
open Go.RowKit
set_option linter.unusedVariables false
section
variable {w0 w w' : World} {U : Nat → Prop} {sb rb mb ms mr N : Nat} {next due nS dR : Int} {l lS lD : List PK} {m : List (Int × List UInt8)}
theorem a_rtake2 (k : Int) (s : List UInt8) (h : WA w0 w U sb rb mb ms mr N next l due m nS lS dR lD) (hk : (Lit.int .i64 k).wf = true) (hs : s.length ≤ maxLen) (hN : N ≤ 100000) :
    Calls Tryd.prog 18 #[.pointer (some ⟨rb, 0, none⟩), .int .i64 k, .string (bs s)] w fun e w' => ∃ r, e = .returned r ∧ w'.ownsRow w.heap.size 9 1 r (takeR due m k s).1.length ((takeR due m k s).1.map fun x => .string (bs x)) ∧
      (∀ vN vD, TwoL 37 w' w0.heap.size mr vN vD dR (lD.map PK.n) (lD.map PK.d) → ∀ y, BFoot mr vN vD y → y < w.heap.size) ∧
      ∃ U', WA w0 w' U' sb rb mb ms mr (N + 1) next l (takeR due m k s).2.1 (takeR due m k s).2.2 nS lS dR lD ∧ Later w w' U U' := by
  obtain ⟨F, G, H, h1, h2, ⟨vN, vD, q1, q2⟩, h4, h5, h6⟩ := h.ex
  obtain ⟨n, hn, hr⟩ := h1.rcv
  refine (rtake_any w rb mb n due m hr k hk s hs (by omega) (by have := h1.fewm; omega)).mono ?_
  rintro e w' ⟨r, he, k1, k2, k3⟩
  obtain ⟨_, hlt⟩ := h1.rcv_to (N := N) k1 k3 (by omega) (by have := takeR_len due m k s; have := h1.fewm; omega)
  have hc : Chg w w' F := hlt.1
  refine ⟨r, he, k2, fun vN' vD' t y hy => ?_, h.pk (w' := w') fun F' hF' => ?_⟩
  · have t0 := q1.kept hc (fun y hy hf => (h4 y hf).2 (q2 y hy))
    obtain ⟨rfl, rfl⟩ := t0.same t
    exact (h.lo y (h6 y (.inr (.inr (q2 y hy))))).2
  · obtain ⟨a, b⟩ := hF'.rcv_to k1 k3 (by omega) (by have := takeR_len due m k s; have := hF'.fewm; omega)
    exact ⟨F', a, b⟩
theorem d_rtake2 (Fu : Nat) (k : Int) (s : List UInt8) (h : WA w0 w U sb rb mb ms mr N next l due m nS lS dR lD) (hd : 0 ≤ dR ∧ dR < 65536) (hs : s.length ≤ maxLen) (hF : lD.length + 1 ≤ Fu) (hF2 : Fu ≤ 10000) (B : Nat)
    (hB : ∀ vN vD, TwoL 37 w w0.heap.size mr vN vD dR (lD.map PK.n) (lD.map PK.d) → ∀ y, BFoot mr vN vD y → y < B) :
    Calls Tryd.prog 19 #[.pointer (some ⟨mr, 0, none⟩), .int .i64 k, .string (bs s)] w fun e w' => ∃ r, e = .returned r ∧ w'.ownsRow w.heap.size 9 1 r (takeD Fu dR lD k s).1.length (txtV (takeD Fu dR lD k s).1) ∧ Chg w w' (fun y => y < B) ∧
      ∃ U', WA w0 w' U' sb rb mb ms mr N next l due m nS lS (takeD Fu dR lD k s).2.1 (takeD Fu dR lD k s).2.2 ∧ Later w w' U U' := by
  obtain ⟨F, G, H, h1, h2, ⟨vN, vD, g1, g2⟩, h4, h5, h6⟩ := h.ex
  refine (rdtake_any Fu w0.heap.size mr vN vD dR k lD s w g1 hd hs (by omega) hF (by omega) h.bel.size).mono ?_
  rintro e w' ⟨r, he, ho, ht⟩
  refine ⟨r, he, ho, ?_, h.rc (w' := w') fun v1 v2 k1 => ?_⟩
  · obtain ⟨_, _, _, kc, _⟩ := ht
    exact kc.more (fun y _ hy => hB vN vD g1 y hy)
  · obtain ⟨rfl, rfl⟩ := g1.same k1
    exact ht
theorem d_more_as (h : WA w0 w U sb rb mb ms mr N next l due m nS lS dR lD) (hd : 0 ≤ dR ∧ dR < 65536) (L : List Int) (hL : morR dR (lD.map PK.n) 32 = L) :
    Calls Tryd.prog 16 #[.pointer (some ⟨mr, 0, none⟩)] w fun e w' => ∃ r, e = .returned r ∧ w'.ownsRow w.heap.size 3 1 r L.length (intV L) ∧ Below w.heap.size w w' := by
  subst hL
  exact d_more h hd
theorem WA.apart (h : WA w0 w U sb rb mb ms mr N next l due m nS lS dR lD) {v : Value} {base : Nat} {e : TypeId} {size n : Nat} {xs : List Value} (ho : w'.ownsRow base e size v n xs) (hb : w.heap.size ≤ base) : ∀ s n c, v = .slice (some s) n c → ¬ U s.block := fun s n c e hu => by
  subst e
  have := own_base (j := s.block) ho rfl
  have := (h.lo _ hu).2
  omega
theorem WA.apart' (h : WA w0 w U sb rb mb ms mr N next l due m nS lS dR lD) {v : Value} {k : Nat} (ho : v.ownBlock = none ∨ v.ownBlock = some k) (hb : w.heap.size ≤ k) : ∀ s n c, v = .slice (some s) n c → ¬ U s.block := fun s n c e hu => by
  subst e
  rcases ho with h1 | h1
  · simp [Value.ownBlock] at h1
  · simp [Value.ownBlock] at h1
    have := (h.lo _ hu).2
    omega
theorem chg_none {w w1 : World} (hg : w.grownBy w1 none) : Chg w w1 (fun _ => False) := ⟨hg.os, hg.tape, hg.output, hg.size, fun k hk hn => hg.block k hk (by simp)⟩
theorem below_none {w0 w w1 : World} (hg : w.grownBy w1 none) (hb : Below w0.heap.size w0 w) : Below w0.heap.size w0 w1 := (chg_none hg).below hb (fun _ h => h.elim)
end
end Go.Proofs.YtnjkopjbognpiaaDoor
