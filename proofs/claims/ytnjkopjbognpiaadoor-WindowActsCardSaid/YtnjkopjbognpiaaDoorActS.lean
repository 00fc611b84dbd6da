/- The package's window and the document's side by side: one word (WA), each call's contract over it. -/
import Derived.Test.YtnjkopjbognpiaaDoorRefRTake
import Derived.Test.YtnjkopjbognpiaaDoorRefMore
import Derived.Test.YtnjkopjbognpiaaDoorWinded
import Derived.Test.YtnjkopjbognpiaaDoorSameInts
namespace Go.Proofs.YtnjkopjbognpiaaDoor
open Go.RowKit
set_option linter.unusedVariables false

def BoxS (T : TypeId) (w0 w : World) (G : Nat → Prop) (b : Nat) (x : Int) (ln : List Int) (ld : List (List UInt8)) : Prop :=
  ∃ vN vD, TwoL T w w0.heap.size b vN vD x ln ld ∧ ∀ y, BFoot b vN vD y → G y
/-- all four boxes: the package's sender (next, l) and receiver (due, m), the document's sender (nS, lS) and receiver (dR, lD) -/
structure WA (w0 w : World) (U : Nat → Prop) (sb rb mb ms mr N : Nat) (next : Int) (l : List PK) (due : Int) (m : List (Int × List UInt8)) (nS : Int) (lS : List PK) (dR : Int) (lD : List PK) : Prop where
  ex : ∃ F G H, WinS w0 w F sb rb mb N next l due m ∧ BoxS 34 w0 w G ms nS (lS.map PK.n) (lS.map PK.d) ∧ BoxS 37 w0 w H mr dR (lD.map PK.n) (lD.map PK.d) ∧
    (∀ y, F y → ¬ G y ∧ ¬ H y) ∧ (∀ y, G y → ¬ H y) ∧ (∀ y, F y ∨ G y ∨ H y → U y)
  lo : ∀ y, U y → w0.heap.size ≤ y ∧ y < w.heap.size
  bel : Below w0.heap.size w0 w
section
variable {w0 w w' : World} {U : Nat → Prop} {sb rb mb ms mr N : Nat} {next due nS dR : Int} {l lS lD : List PK} {m : List (Int × List UInt8)} {T : TypeId} {G : Nat → Prop} {b : Nat} {x : Int} {ln : List Int} {ld : List (List UInt8)}
theorem BoxS.kept {S : Nat → Prop} (h : BoxS T w0 w G b x ln ld) (hc : Chg w w' S) (hS : ∀ y, G y → ¬ S y) : BoxS T w0 w' G b x ln ld := by
  obtain ⟨vN, vD, h1, h2⟩ := h
  exact ⟨vN, vD, h1.kept hc (fun y hy => hS y (h2 y hy)), h2⟩
theorem WinS.kept' {F S : Nat → Prop} (h : WinS w0 w F sb rb mb N next l due m) (hc : Chg w w' S) (hS : ∀ y, F y → ¬ S y) (hb : Below w0.heap.size w0 w') : WinS w0 w' F sb rb mb N next l due m := by
  obtain ⟨v, h1, h2, h3, h4⟩ := h.snd
  obtain ⟨n, hn, hr⟩ := h.rcv
  exact ⟨⟨v, h1.kept hc (hS _ h.fs) (fun y hy => hS y (h2 y hy)), h2, h3, h4⟩, ⟨n, hn, hr.kept hc (hS _ h.fr) (hS _ h.fm)⟩, h.fs, h.fr, h.fm, h.n1, h.n2, fun y hy => ⟨(h.lo y hy).1, Nat.lt_of_lt_of_le (h.lo y hy).2 hc.size⟩, hb, h.ok, h.few, h.fewm⟩
theorem WA.kept {S : Nat → Prop} (h : WA w0 w U sb rb mb ms mr N next l due m nS lS dR lD) (hc : Chg w w' S) (hS : ∀ y, U y → ¬ S y) (hb : Below w0.heap.size w0 w') : WA w0 w' U sb rb mb ms mr N next l due m nS lS dR lD := by
  obtain ⟨F, G, H, h1, h2, h3, h4, h5, h6⟩ := h.ex
  exact ⟨⟨F, G, H, h1.kept' hc (fun y hy => hS y (h6 y (.inl hy))) hb, h2.kept hc (fun y hy => hS y (h6 y (.inr (.inl hy)))), h3.kept hc (fun y hy => hS y (h6 y (.inr (.inr hy)))), h4, h5, h6⟩, fun y hy => ⟨(h.lo y hy).1, Nat.lt_of_lt_of_le (h.lo y hy).2 hc.size⟩, hb⟩
theorem WA.below (h : WA w0 w U sb rb mb ms mr N next l due m nS lS dR lD) (hb : Below w.heap.size w w') : WA w0 w' U sb rb mb ms mr N next l due m nS lS dR lD :=
  h.kept (Chg.of_below hb (fun _ => False)) (fun _ _ h => h) (below_trans' h.bel hb)
/-- the package's boxes have turned -/
theorem WA.pk {N' : Nat} {next' due' : Int} {l' : List PK} {m' : List (Int × List UInt8)} (h : WA w0 w U sb rb mb ms mr N next l due m nS lS dR lD)
    (k : ∀ F, WinS w0 w F sb rb mb N next l due m → ∃ F', WinS w0 w' F' sb rb mb N' next' l' due' m' ∧ Later w w' F F') : ∃ U', WA w0 w' U' sb rb mb ms mr N' next' l' due' m' nS lS dR lD ∧ Later w w' U U' := by
  obtain ⟨F, G, H, h1, h2, h3, h4, h5, h6⟩ := h.ex
  obtain ⟨F', k1, kc, ka⟩ := k F h1
  have gl : ∀ y, G y → y < w.heap.size := fun y hy => (h.lo y (h6 y (.inr (.inl hy)))).2
  have hl : ∀ y, H y → y < w.heap.size := fun y hy => (h.lo y (h6 y (.inr (.inr hy)))).2
  refine ⟨fun y => F' y ∨ G y ∨ H y, ⟨⟨F', G, H, k1, h2.kept kc (fun y hg hf => (h4 y hf).1 hg), h3.kept kc (fun y hg hf => (h4 y hf).2 hg), fun y hy => ?_, h5, fun y hy => hy⟩, fun y hy => ?_, k1.bel⟩, kc.more (fun y _ hy => h6 y (.inl hy)), fun y hy => ?_⟩
  · rcases ka y hy with hf | hf
    · exact h4 y hf
    · exact ⟨fun hg => by have := gl y hg; omega, fun hg => by have := hl y hg; omega⟩
  · rcases hy with hy | hy | hy
    · exact k1.lo y hy
    · exact ⟨(h.lo y (h6 y (.inr (.inl hy)))).1, Nat.lt_of_lt_of_le (gl y hy) kc.size⟩
    · exact ⟨(h.lo y (h6 y (.inr (.inr hy)))).1, Nat.lt_of_lt_of_le (hl y hy) kc.size⟩
  · rcases hy with hy | hy | hy
    · exact (ka y hy).imp (fun h => h6 y (.inl h)) id
    · exact .inl (h6 y (.inr (.inl hy)))
    · exact .inl (h6 y (.inr (.inr hy)))
theorem TwoTo.lo {vN vD : Value} (h : TwoL T w w0.heap.size b vN vD x ln ld) (y : Nat) (hy : BFoot b vN vD y) : w0.heap.size ≤ y := by
  rcases hy with rfl | hy | hy
  · exact h.lo
  · exact own_base h.ownN hy
  · exact own_base h.ownD hy
/-- the document's sender has turned -/
theorem WA.sd {nS' : Int} {lS' : List PK} (h : WA w0 w U sb rb mb ms mr N next l due m nS lS dR lD)
    (k : ∀ vN vD, TwoL 34 w w0.heap.size ms vN vD nS (lS.map PK.n) (lS.map PK.d) → TwoTo 34 w w' w0.heap.size ms vN vD nS' (lS'.map PK.n) (lS'.map PK.d)) : ∃ U', WA w0 w' U' sb rb mb ms mr N next l due m nS' lS' dR lD ∧ Later w w' U U' := by
  obtain ⟨F, G, H, h1, ⟨vN, vD, g1, g2⟩, h3, h4, h5, h6⟩ := h.ex
  obtain ⟨vN', vD', k1, kc, ka⟩ := k vN vD g1
  have kc' : Chg w w' G := kc.more (fun y _ hy => g2 y hy)
  have fl : ∀ y, F y → y < w.heap.size := fun y hy => (h.lo y (h6 y (.inl hy))).2
  have hl : ∀ y, H y → y < w.heap.size := fun y hy => (h.lo y (h6 y (.inr (.inr hy)))).2
  have hb : Below w0.heap.size w0 w' := kc'.below h.bel (fun y hy => (h.lo y (h6 y (.inr (.inl hy)))).1)
  have gf : ∀ y, BFoot ms vN' vD' y → G y ∨ w.heap.size ≤ y := fun y hy => (ka y hy).imp (g2 y) id
  refine ⟨fun y => F y ∨ BFoot ms vN' vD' y ∨ H y, ⟨⟨F, BFoot ms vN' vD', H, h1.kept' kc' (fun y hf hg => (h4 y hf).1 hg) hb, ⟨vN', vD', k1, fun y hy => hy⟩, h3.kept kc' (fun y hh hg => h5 y hg hh), fun y hy => ⟨fun hg => ?_, (h4 y hy).2⟩, fun y hy hh => ?_, fun y hy => hy⟩, fun y hy => ?_, hb⟩, kc'.more (fun y _ hy => h6 y (.inr (.inl hy))), fun y hy => ?_⟩
  · rcases gf y hg with h7 | h7
    · exact (h4 y hy).1 h7
    · have := fl y hy; omega
  · rcases gf y hy with h7 | h7
    · exact h5 y h7 hh
    · have := hl y hh; omega
  · rcases hy with hy | hy | hy
    · exact ⟨(h.lo y (h6 y (.inl hy))).1, Nat.lt_of_lt_of_le (fl y hy) kc.size⟩
    · exact ⟨TwoTo.lo k1 y hy, k1.foot hy⟩
    · exact ⟨(h.lo y (h6 y (.inr (.inr hy)))).1, Nat.lt_of_lt_of_le (hl y hy) kc.size⟩
  · rcases hy with hy | hy | hy
    · exact .inl (h6 y (.inl hy))
    · exact (gf y hy).imp (fun h => h6 y (.inr (.inl h))) id
    · exact .inl (h6 y (.inr (.inr hy)))
/-- the document's receiver has turned -/
theorem WA.rc {dR' : Int} {lD' : List PK} (h : WA w0 w U sb rb mb ms mr N next l due m nS lS dR lD)
    (k : ∀ vN vD, TwoL 37 w w0.heap.size mr vN vD dR (lD.map PK.n) (lD.map PK.d) → TwoTo 37 w w' w0.heap.size mr vN vD dR' (lD'.map PK.n) (lD'.map PK.d)) : ∃ U', WA w0 w' U' sb rb mb ms mr N next l due m nS lS dR' lD' ∧ Later w w' U U' := by
  obtain ⟨F, G, H, h1, h2, ⟨vN, vD, g1, g2⟩, h4, h5, h6⟩ := h.ex
  obtain ⟨vN', vD', k1, kc, ka⟩ := k vN vD g1
  have kc' : Chg w w' H := kc.more (fun y _ hy => g2 y hy)
  have fl : ∀ y, F y → y < w.heap.size := fun y hy => (h.lo y (h6 y (.inl hy))).2
  have gl : ∀ y, G y → y < w.heap.size := fun y hy => (h.lo y (h6 y (.inr (.inl hy)))).2
  have hb : Below w0.heap.size w0 w' := kc'.below h.bel (fun y hy => (h.lo y (h6 y (.inr (.inr hy)))).1)
  have gf : ∀ y, BFoot mr vN' vD' y → H y ∨ w.heap.size ≤ y := fun y hy => (ka y hy).imp (g2 y) id
  refine ⟨fun y => F y ∨ G y ∨ BFoot mr vN' vD' y, ⟨⟨F, G, BFoot mr vN' vD', h1.kept' kc' (fun y hf hg => (h4 y hf).2 hg) hb, h2.kept kc' (fun y hg hh => h5 y hg hh), ⟨vN', vD', k1, fun y hy => hy⟩, fun y hy => ⟨(h4 y hy).1, fun hg => ?_⟩, fun y hy hh => ?_, fun y hy => hy⟩, fun y hy => ?_, hb⟩, kc'.more (fun y _ hy => h6 y (.inr (.inr hy))), fun y hy => ?_⟩
  · rcases gf y hg with h7 | h7
    · exact (h4 y hy).2 h7
    · have := fl y hy; omega
  · rcases gf y hh with h7 | h7
    · exact h5 y hy h7
    · have := gl y hy; omega
  · rcases hy with hy | hy | hy
    · exact ⟨(h.lo y (h6 y (.inl hy))).1, Nat.lt_of_lt_of_le (fl y hy) kc.size⟩
    · exact ⟨(h.lo y (h6 y (.inr (.inl hy)))).1, Nat.lt_of_lt_of_le (gl y hy) kc.size⟩
    · exact ⟨TwoTo.lo k1 y hy, k1.foot hy⟩
  · rcases hy with hy | hy | hy
    · exact .inl (h6 y (.inl hy))
    · exact .inl (h6 y (.inr (.inl hy)))
    · exact (gf y hy).imp (fun h => h6 y (.inr (.inr h))) id
/-! ### the calls -/
theorem a_push (E : Nat → Addr) (s : List UInt8) (h : WA w0 w U sb rb mb ms mr N next l due m nS lS dR lD) (hs : s.length ≤ maxLen) (hB : Has E w0 2) (hF : Has E w0 8) (hN : N ≤ 100000) :
    Calls Tryd.prog 10 #[.pointer (some ⟨sb, 0, none⟩), .string (bs s)] w fun e w' => e = .returned (.tuple #[.int .i64 (pushN (pushC next l s) next), ev E (pushC next l s)]) ∧
      ∃ U', WA w0 w' U' sb rb mb ms mr (N + 1) (pushX (pushC next l s) next) (pushL (pushC next l s) next l s) due m nS lS dR lD ∧ Later w w' U U' := by
  obtain ⟨F, G, H, h1, h2⟩ := h.ex
  obtain ⟨v, k1, k2, k3, k4⟩ := h1.snd
  refine (push_any E w0.heap.size sb v next l s w k1 h1.ok hs (hB.below h1.bel) (hF.below h1.bel) (by have := h1.few; omega) h1.bel.size).mono ?_
  rintro e w' ⟨he, ht⟩
  refine ⟨he, h.pk (w' := w') fun F' hF' => ?_⟩
  obtain ⟨v', k1', k2', k3', k4'⟩ := hF'.snd
  have e1 := k1.cells
  rw [k1'.cells] at e1
  obtain rfl : v = v' := by simp at e1; exact e1.symm
  exact hF'.snd_to k1' k2' k3' k4' ht (pushL_ok hF'.ok k1'.next) (Nat.le_succ _) (by have := pushL_len (pushC next l s) next l s; have := hF'.few; omega)
theorem a_stake (mv : Value) (nx : Int) (more : List Int) (h : WA w0 w U sb rb mb ms mr N next l due m nS lS dR lD) (hm : SliceIs w mv 1 (more.map (Value.int .i64))) (hmv : ∀ s n c, mv = .slice (some s) n c → ¬ U s.block) (hN : N ≤ 100000) :
    Calls Tryd.prog 13 #[.pointer (some ⟨sb, 0, none⟩), .agg #[.int .i64 nx, mv]] w fun e w' => e = .returned (.int .i64 ((l.length : Int) - (sTake next l nx more).length)) ∧
      ∃ U', WA w0 w' U' sb rb mb ms mr N next (sTake next l nx more) due m nS lS dR lD ∧ Later w w' U U' := by
  obtain ⟨F, G, H, h1, h2, h3, h4, h5, h6⟩ := h.ex
  obtain ⟨v, k1, k2, k3, k4⟩ := h1.snd
  refine (stake_any w0.heap.size sb v mv next nx l more w k1 h1.ok hm (fun s n c b e1 e2 e3 => hmv s n c e1 (by rw [e2]; exact h6 _ (.inl (k2 b e3)))) (by have := h1.few; omega)).mono ?_
  rintro e w' ⟨he, ht⟩
  refine ⟨he, h.pk (w' := w') fun F' hF' => ?_⟩
  obtain ⟨v', k1', k2', k3', k4'⟩ := hF'.snd
  have e1 := k1.cells
  rw [k1'.cells] at e1
  obtain rfl : v = v' := by simp at e1; exact e1.symm
  exact hF'.snd_to k1' k2' k3' k4' ht (sTake_ok hF'.ok) (Nat.le_refl _) (by have := sTake_len next l nx more; have := hF'.few; omega)
theorem a_rtake (k : Int) (s : List UInt8) (h : WA w0 w U sb rb mb ms mr N next l due m nS lS dR lD) (hk : (Lit.int .i64 k).wf = true) (hs : s.length ≤ maxLen) (hN : N ≤ 100000) :
    Calls Tryd.prog 18 #[.pointer (some ⟨rb, 0, none⟩), .int .i64 k, .string (bs s)] w fun e w' => ∃ r, e = .returned r ∧ w'.ownsRow w.heap.size 9 1 r (takeR due m k s).1.length ((takeR due m k s).1.map fun x => .string (bs x)) ∧
      ∃ U', WA w0 w' U' sb rb mb ms mr (N + 1) next l (takeR due m k s).2.1 (takeR due m k s).2.2 nS lS dR lD ∧ Later w w' U U' := by
  obtain ⟨F, G, H, h1, h2⟩ := h.ex
  obtain ⟨n, hn, hr⟩ := h1.rcv
  refine (rtake_any w rb mb n due m hr k hk s hs (by omega) (by have := h1.fewm; omega)).mono ?_
  rintro e w' ⟨r, he, k1, k2, k3⟩
  refine ⟨r, he, k2, h.pk (w' := w') fun F' hF' => ?_⟩
  obtain ⟨a, b⟩ := hF'.rcv_to k1 k3 (by omega) (by have := takeR_len due m k s; have := hF'.fewm; omega)
  exact ⟨F', a, b⟩
theorem a_ack (h : WA w0 w U sb rb mb ms mr N next l due m nS lS dR lD) :
    Calls Tryd.prog 15 #[.pointer (some ⟨rb, 0, none⟩)] w fun e w' => ∃ r, e = .returned (.agg #[.int .i64 due, r]) ∧ w'.ownsRow w.heap.size 3 1 r (ackMore due m).length (intV (ackMore due m)) ∧ Below w.heap.size w w' := by
  obtain ⟨F, G, H, h1, h2⟩ := h.ex
  obtain ⟨n, hn, hr⟩ := h1.rcv
  refine (rack_any w rb mb n due m hr).mono ?_
  rintro e w' ⟨r, he, k1, k2⟩
  exact ⟨r, he, k1, k2⟩
theorem a_kept (h : WA w0 w U sb rb mb ms mr N next l due m nS lS dR lD) (hN : N ≤ 100000) :
    Calls Tryd.prog 21 #[.pointer (some ⟨sb, 0, none⟩)] w fun e w' => ∃ r, e = .returned r ∧ w'.ownsRow w.heap.size 3 1 r l.length (l.map fun k => Value.int .i64 k.n) ∧ Below w.heap.size w w' := by
  obtain ⟨F, G, H, h1, h2⟩ := h.ex
  obtain ⟨v, k1, _⟩ := h1.snd
  exact kept_any w0.heap.size sb v next l w k1 (by have := h1.few; omega)
theorem a_data (n : Int) (h : WA w0 w U sb rb mb ms mr N next l due m nS lS dR lD) (hN : N ≤ 100000) :
    Calls Tryd.prog 22 #[.pointer (some ⟨sb, 0, none⟩), .int .i64 n] w fun e w' => e = .returned (.tuple #[.string (bs ((dataS l n).getD [])), .bool (dataS l n).isSome]) ∧ Below w.heap.size w w' := by
  obtain ⟨F, G, H, h1, h2⟩ := h.ex
  obtain ⟨v, k1, _⟩ := h1.snd
  exact data_any w0.heap.size sb v next l n w k1 (by have := h1.few; omega)
theorem d_push (s : List UInt8) (h : WA w0 w U sb rb mb ms mr N next l due m nS lS dR lD) (hk : KOk lS) (hn : 0 ≤ nS ∧ nS < 65536) (hs : s.length ≤ maxLen) (hlen : lS.length ≤ 10000) :
    Calls Tryd.prog 11 #[.pointer (some ⟨ms, 0, none⟩), .string (bs s)] w fun e w' => e = .returned (.tuple #[.int .i64 (pushN (pushC nS lS s) nS), .int .i64 (pushC nS lS s : Nat)]) ∧
      ∃ U', WA w0 w' U' sb rb mb ms mr N next l due m (pushX (pushC nS lS s) nS) (pushL (pushC nS lS s) nS lS s) dR lD ∧ Later w w' U U' := by
  obtain ⟨F, G, H, h1, ⟨vN, vD, g1, g2⟩, _⟩ := h.ex
  refine (rpush_any w0.heap.size ms vN vD nS lS s w g1 hk hn hs (by omega) h.bel.size).mono ?_
  rintro e w' ⟨he, ht⟩
  refine ⟨he, h.sd (w' := w') fun v1 v2 k1 => ?_⟩
  obtain ⟨rfl, rfl⟩ := g1.same k1
  exact ht
theorem d_stake (mv : Value) (nx : Int) (more : List Int) (h : WA w0 w U sb rb mb ms mr N next l due m nS lS dR lD) (hk : KOk lS) (hn : 0 ≤ nS ∧ nS < 65536) (hm : SliceIs w mv 1 (more.map (Value.int .i64))) (hlen : lS.length ≤ 10000) :
    Calls Tryd.prog 14 #[.pointer (some ⟨ms, 0, none⟩), .int .i64 nx, mv] w fun e w' => e = .returned (.int .i64 ((lS.length : Int) - (sTake nS lS nx more).length)) ∧
      ∃ U', WA w0 w' U' sb rb mb ms mr N next l due m nS (sTake nS lS nx more) dR lD ∧ Later w w' U U' := by
  obtain ⟨F, G, H, h1, ⟨vN, vD, g1, g2⟩, _⟩ := h.ex
  refine (rstake_any w0.heap.size ms vN vD mv nS nx lS more w g1 hk hn hm (by omega) h.bel.size).mono ?_
  rintro e w' ⟨he, ht⟩
  refine ⟨he, h.sd (w' := w') fun v1 v2 k1 => ?_⟩
  obtain ⟨rfl, rfl⟩ := g1.same k1
  exact ht
theorem d_rtake (Fu : Nat) (k : Int) (s : List UInt8) (h : WA w0 w U sb rb mb ms mr N next l due m nS lS dR lD) (hd : 0 ≤ dR ∧ dR < 65536) (hs : s.length ≤ maxLen) (hF : lD.length + 1 ≤ Fu) (hF2 : Fu ≤ 10000) :
    Calls Tryd.prog 19 #[.pointer (some ⟨mr, 0, none⟩), .int .i64 k, .string (bs s)] w fun e w' => ∃ r, e = .returned r ∧ w'.ownsRow w.heap.size 9 1 r (takeD Fu dR lD k s).1.length (txtV (takeD Fu dR lD k s).1) ∧
      ∃ U', WA w0 w' U' sb rb mb ms mr N next l due m nS lS (takeD Fu dR lD k s).2.1 (takeD Fu dR lD k s).2.2 ∧ Later w w' U U' := by
  obtain ⟨F, G, H, h1, h2, ⟨vN, vD, g1, g2⟩, _⟩ := h.ex
  refine (rdtake_any Fu w0.heap.size mr vN vD dR k lD s w g1 hd hs (by omega) hF (by omega) h.bel.size).mono ?_
  rintro e w' ⟨r, he, ho, ht⟩
  refine ⟨r, he, ho, h.rc (w' := w') fun v1 v2 k1 => ?_⟩
  obtain ⟨rfl, rfl⟩ := g1.same k1
  exact ht
theorem d_more (h : WA w0 w U sb rb mb ms mr N next l due m nS lS dR lD) (hd : 0 ≤ dR ∧ dR < 65536) :
    Calls Tryd.prog 16 #[.pointer (some ⟨mr, 0, none⟩)] w fun e w' => ∃ r, e = .returned r ∧ w'.ownsRow w.heap.size 3 1 r (morR dR (lD.map PK.n) 32).length (intV (morR dR (lD.map PK.n) 32)) ∧ Below w.heap.size w w' := by
  obtain ⟨F, G, H, h1, h2, ⟨vN, vD, g1, g2⟩, _⟩ := h.ex
  exact rmore_any mr vN vD dR (lD.map PK.n) w g1.cells (SliceIs.ownedK g1.ownN) hd
/-- what a walk reads of the document's boxes -/
theorem WA.msc (h : WA w0 w U sb rb mb ms mr N next l due m nS lS dR lD) : ∃ vN vD, (w.cell? ⟨ms, 1, none⟩ = some vN ∧ w.cell? ⟨ms, 2, none⟩ = some vD) ∧ SliceIs w vN 1 (intV (lS.map PK.n)) ∧ SliceIs w vD 1 (txtV (lS.map PK.d)) := by
  obtain ⟨F, G, H, h1, ⟨vN, vD, g1, g2⟩, _⟩ := h.ex
  exact ⟨vN, vD, ⟨g1.cs.1.2.1, g1.cs.1.2.2⟩, SliceIs.ownedK g1.ownN, SliceIs.ownedK g1.ownD⟩
theorem WA.mrc (h : WA w0 w U sb rb mb ms mr N next l due m nS lS dR lD) : w.cell? ⟨mr, 0, none⟩ = some (.int .i64 dR) := by
  obtain ⟨F, G, H, h1, h2, ⟨vN, vD, g1, g2⟩, _⟩ := h.ex
  exact g1.cs.1.1
theorem WA.facts (h : WA w0 w U sb rb mb ms mr N next l due m nS lS dR lD) : (0 ≤ next ∧ next < 65536) ∧ (0 ≤ due ∧ due < 65536) ∧ KOk l ∧ l.length ≤ N ∧ m.length ≤ N := by
  obtain ⟨F, G, H, h1, h2⟩ := h.ex
  obtain ⟨v, k1, _⟩ := h1.snd
  obtain ⟨n, hn, hr⟩ := h1.rcv
  exact ⟨k1.next, hr.due, h1.ok, h1.few, h1.fewm⟩
end
end Go.Proofs.YtnjkopjbognpiaaDoor
