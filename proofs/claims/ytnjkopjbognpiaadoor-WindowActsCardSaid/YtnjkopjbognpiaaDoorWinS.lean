/- A sender and a receiver side by side: their contracts over one word (WinS), each with its footprint. -/
import Derived.Test.YtnjkopjbognpiaaDoorWinAck
import Derived.Test.YtnjkopjbognpiaaDoorSameTexts
namespace Go.Proofs.YtnjkopjbognpiaaDoor
open Go.RowKit
set_option linter.unusedVariables false

def Later (w w' : World) (F F' : Nat → Prop) : Prop := Chg w w' F ∧ ∀ x, F' x → F x ∨ w.heap.size ≤ x
theorem Later.below {w w' : World} (h : Below w.heap.size w w') (F : Nat → Prop) : Later w w' F F := ⟨Chg.of_below h F, fun _ h => .inl h⟩
structure WinS (w0 w : World) (F : Nat → Prop) (sb rb mb N : Nat) (next : Int) (l : List PK) (due : Int) (m : List (Int × List UInt8)) : Prop where
  snd : ∃ v, SndAt w w0.heap.size sb v next l ∧ (∀ x, v.ownBlock = some x → F x) ∧ v.ownBlock ≠ some rb ∧ v.ownBlock ≠ some mb
  rcv : ∃ n, n ≤ N ∧ RcvAt w rb mb n due m
  fs : F sb
  fr : F rb
  fm : F mb
  n1 : sb ≠ rb
  n2 : sb ≠ mb
  lo : ∀ x, F x → w0.heap.size ≤ x ∧ x < w.heap.size
  bel : Below w0.heap.size w0 w
  ok : KOk l
  few : l.length ≤ N
  fewm : m.length ≤ N
section
variable {w0 w w' : World} {F : Nat → Prop} {sb rb mb N : Nat} {next due : Int} {l : List PK} {m : List (Int × List UInt8)}
theorem Chg.below0 (hb : Below w0.heap.size w0 w) (hc : Chg w w' F) (hF : ∀ x, F x → w0.heap.size ≤ x) : Below w0.heap.size w0 w' := hc.below hb hF
theorem WinS.more (h : WinS w0 w F sb rb mb N next l due m) {N' : Nat} (hN : N ≤ N') : WinS w0 w F sb rb mb N' next l due m := by
  obtain ⟨n, hn, hr⟩ := h.rcv
  exact ⟨h.snd, ⟨n, by omega, hr⟩, h.fs, h.fr, h.fm, h.n1, h.n2, h.lo, h.bel, h.ok, by have := h.few; omega, by have := h.fewm; omega⟩
theorem WinS.below (h : WinS w0 w F sb rb mb N next l due m) (hb : Below w.heap.size w w') : WinS w0 w' F sb rb mb N next l due m := by
  obtain ⟨v, h1, h2, h3, h4⟩ := h.snd
  obtain ⟨n, hn, hr⟩ := h.rcv
  exact ⟨⟨v, h1.below hb, h2, h3, h4⟩, ⟨n, hn, hr.kept (Chg.of_below hb (fun _ => False)) (fun h => h) (fun h => h)⟩, h.fs, h.fr, h.fm, h.n1, h.n2, fun x hx => ⟨(h.lo x hx).1, Nat.lt_of_lt_of_le (h.lo x hx).2 hb.size⟩, below_trans' h.bel hb, h.ok, h.few, h.fewm⟩
/-- the sender has turned -/
theorem WinS.snd_to (h : WinS w0 w F sb rb mb N next l due m) {v : Value} (hv : SndAt w w0.heap.size sb v next l) (hF : ∀ x, v.ownBlock = some x → F x) (h3 : v.ownBlock ≠ some rb) (h4 : v.ownBlock ≠ some mb) {next' : Int} {l' : List PK} (ht : SndTo w w' w0.heap.size sb v next' l') (hok : KOk l') {N' : Nat} (hN : N ≤ N') (hl : l'.length ≤ N') :
    ∃ F', WinS w0 w' F' sb rb mb N' next' l' due m ∧ Later w w' F F' := by
  obtain ⟨v', h1, hc, ha⟩ := ht
  obtain ⟨n, hn, hr⟩ := h.rcv
  have hcF : Chg w w' F := hc.more (fun x _ hx => by rcases hx with rfl | hx; exact h.fs; exact hF x hx)
  have hrb := lt_of_block hr.cells
  have hmb := hr.map.lt
  have ne1 : v'.ownBlock ≠ some rb := fun e => by rcases ha rb e with h | h; exact h3 h; omega
  have ne2 : v'.ownBlock ≠ some mb := fun e => by rcases ha mb e with h | h; exact h4 h; omega
  refine ⟨fun x => F x ∨ v'.ownBlock = some x, ⟨⟨v', h1, fun x hx => .inr hx, ne1, ne2⟩, ⟨n, by omega, ?_⟩, .inl h.fs, .inl h.fr, .inl h.fm, h.n1, h.n2, fun x hx => ?_, hcF.below h.bel (fun x hx => (h.lo x hx).1), hok, hl, by have := h.fewm; omega⟩, hcF, fun x hx => ?_⟩
  · refine hr.kept hc ?_ ?_
    · rintro (e | e)
      · exact h.n1 e.symm
      · exact h3 e
    · rintro (e | e)
      · exact h.n2 e.symm
      · exact h4 e
  · rcases hx with hx | hx
    · exact ⟨(h.lo x hx).1, Nat.lt_of_lt_of_le (h.lo x hx).2 hc.size⟩
    · exact h1.own.lt x hx
  · rcases hx with hx | hx
    · exact .inl hx
    · exact (ha x hx).imp (hF x) id
/-- the receiver has turned -/
theorem WinS.rcv_to (h : WinS w0 w F sb rb mb N next l due m) {n' : Nat} {due' : Int} {m' : List (Int × List UInt8)} (hr : RcvAt w' rb mb n' due' m') (hc : Chg w w' (Two rb mb)) (hn : n' ≤ N + 1) (hm : m'.length ≤ N + 1) :
    WinS w0 w' F sb rb mb (N + 1) next l due' m' ∧ Later w w' F F := by
  obtain ⟨v, h1, h2, h3, h4⟩ := h.snd
  have hcF : Chg w w' F := hc.more (fun x _ hx => by rcases hx with rfl | rfl; exact h.fr; exact h.fm)
  refine ⟨⟨⟨v, h1.kept hc ?_ (fun x hx => ?_), h2, h3, h4⟩, ⟨n', hn, hr⟩, h.fs, h.fr, h.fm, h.n1, h.n2, fun x hx => ⟨(h.lo x hx).1, Nat.lt_of_lt_of_le (h.lo x hx).2 hc.size⟩, hcF.below h.bel (fun x hx => (h.lo x hx).1), h.ok, by have := h.few; omega, hm⟩, hcF, fun _ h => .inl h⟩
  · rintro (e | e)
    · exact h.n1 e
    · exact h.n2 e
  · rintro (e | e)
    · subst e; exact h3 hx
    · subst e; exact h4 hx
theorem pushL_ok {c : Nat} {s : List UInt8} (h : KOk l) (hn : 0 ≤ next ∧ next < 65536) : KOk (pushL c next l s) := by
  unfold pushL
  split
  · intro k hk
    rcases List.mem_append.1 hk with hk | hk
    · exact h k hk
    · simp at hk; subst hk; exact hn
  · exact h
theorem pushL_len (c : Nat) (next : Int) (l : List PK) (s : List UInt8) : (pushL c next l s).length ≤ l.length + 1 := by
  unfold pushL; split <;> simp
theorem sTake_ok {nx : Int} {more : List Int} (h : KOk l) : KOk (sTake next l nx more) := by
  cases l with
  | nil => exact h
  | cons o r => rw [sTake_cons]; exact fun k hk => h k (List.mem_filter.1 hk).1
theorem drain_len (f : Nat) : ∀ (due : Int) (m : List (Int × List UInt8)), (drain f due m).2.2.length ≤ m.length := by
  induction f with
  | zero => intro due m; exact Nat.le_refl _
  | succ f ih =>
    intro due m
    cases h : lk m due with
    | none => rw [drain_none h]; exact Nat.le_refl _
    | some s =>
      rw [drain_some h]
      exact Nat.le_trans (ih _ _) (Nat.le_of_lt (mdel_len h))
theorem takeR_len (due : Int) (m : List (Int × List UInt8)) (k : Int) (s : List UInt8) : (takeR due m k s).2.2.length ≤ m.length + 1 := by
  by_cases h : wlB k = true ∧ lk m k = none ∧ md (k - due) < 32
  · rw [takeR_yes h]; exact Nat.le_trans (drain_len _ _ _) (mput_len _ _ _)
  · rw [takeR_no h]; exact Nat.le_succ _
theorem push_w (E : Nat → Addr) (s : List UInt8) (h : WinS w0 w F sb rb mb N next l due m) (hs : s.length ≤ maxLen) (hB : Has E w0 2) (hF : Has E w0 8) (hN : N ≤ 100000) :
    Calls Tryd.prog 10 #[.pointer (some ⟨sb, 0, none⟩), .string (bs s)] w fun e w' => e = .returned (.tuple #[.int .i64 (pushN (pushC next l s) next), ev E (pushC next l s)]) ∧
      ∃ F', WinS w0 w' F' sb rb mb (N + 1) (pushX (pushC next l s) next) (pushL (pushC next l s) next l s) due m ∧ Later w w' F F' := by
  obtain ⟨v, h1, h2, h3, h4⟩ := h.snd
  refine (push_any E w0.heap.size sb v next l s w h1 h.ok hs (hB.below h.bel) (hF.below h.bel) (by have := h.few; omega) h.bel.size).mono ?_
  rintro e w' ⟨he, ht⟩
  exact ⟨he, h.snd_to h1 h2 h3 h4 ht (pushL_ok h.ok h1.next) (Nat.le_succ _) (by have := pushL_len (pushC next l s) next l s; have := h.few; omega)⟩
theorem stake_w (mv : Value) (nx : Int) (more : List Int) (h : WinS w0 w F sb rb mb N next l due m) (hm : SliceIs w mv 1 (more.map (Value.int .i64))) (hmv : ∀ s n c, mv = .slice (some s) n c → ¬ F s.block) (hN : N ≤ 100000) :
    Calls Tryd.prog 13 #[.pointer (some ⟨sb, 0, none⟩), .agg #[.int .i64 nx, mv]] w fun e w' => e = .returned (.int .i64 ((l.length : Int) - (sTake next l nx more).length)) ∧
      ∃ F', WinS w0 w' F' sb rb mb N next (sTake next l nx more) due m ∧ Later w w' F F' := by
  obtain ⟨v, h1, h2, h3, h4⟩ := h.snd
  refine (stake_any w0.heap.size sb v mv next nx l more w h1 h.ok hm (fun s n c b e1 e2 e3 => hmv s n c e1 (by rw [e2]; exact h2 b e3)) (by have := h.few; omega)).mono ?_
  rintro e w' ⟨he, ht⟩
  exact ⟨he, h.snd_to h1 h2 h3 h4 ht (sTake_ok h.ok) (Nat.le_refl _) (by have := sTake_len next l nx more; have := h.few; omega)⟩
theorem rtake_w (k : Int) (s : List UInt8) (h : WinS w0 w F sb rb mb N next l due m) (hk : (Lit.int .i64 k).wf = true) (hs : s.length ≤ maxLen) (hN : N ≤ 100000) :
    Calls Tryd.prog 18 #[.pointer (some ⟨rb, 0, none⟩), .int .i64 k, .string (bs s)] w fun e w' => ∃ r, e = .returned r ∧ w'.ownsRow w.heap.size 9 1 r (takeR due m k s).1.length ((takeR due m k s).1.map fun x => .string (bs x)) ∧
      WinS w0 w' F sb rb mb (N + 1) next l (takeR due m k s).2.1 (takeR due m k s).2.2 ∧ Later w w' F F := by
  obtain ⟨n, hn, hr⟩ := h.rcv
  refine (rtake_any w rb mb n due m hr k hk s hs (by omega) (by have := h.fewm; omega)).mono ?_
  rintro e w' ⟨r, he, h1, h2, h3⟩
  obtain ⟨a, b⟩ := h.rcv_to h1 h3 (by omega) (by have := takeR_len due m k s; have := h.fewm; omega)
  exact ⟨r, he, h2, a, b⟩
theorem rack_w (h : WinS w0 w F sb rb mb N next l due m) :
    Calls Tryd.prog 15 #[.pointer (some ⟨rb, 0, none⟩)] w fun e w' => ∃ r, e = .returned (.agg #[.int .i64 due, r]) ∧ SliceIs w' r 1 ((ackMore due m).map (Value.int .i64)) ∧ (∀ s n c, r = .slice (some s) n c → ¬ F s.block) ∧ WinS w0 w' F sb rb mb N next l due m ∧ Below w.heap.size w w' := by
  obtain ⟨n, hn, hr⟩ := h.rcv
  refine (rack_any w rb mb n due m hr).mono ?_
  rintro e w' ⟨r, he, h1, h2⟩
  refine ⟨r, he, SliceIs.ownedK h1, ?_, h.below h2, h2⟩
  rintro s n c rfl hf
  have := (h1.lt s.block rfl).1
  have := (h.lo _ hf).2
  omega
theorem kept_w (h : WinS w0 w F sb rb mb N next l due m) (hN : N ≤ 100000) :
    Calls Tryd.prog 21 #[.pointer (some ⟨sb, 0, none⟩)] w fun e w' => ∃ r, e = .returned r ∧ w'.ownsRow w.heap.size 3 1 r l.length (l.map fun k => Value.int .i64 k.n) ∧ WinS w0 w' F sb rb mb N next l due m ∧ Below w.heap.size w w' := by
  obtain ⟨v, h1, _⟩ := h.snd
  refine (kept_any w0.heap.size sb v next l w h1 (by have := h.few; omega)).mono ?_
  rintro e w' ⟨r, he, h2, h3⟩
  exact ⟨r, he, h2, h.below h3, h3⟩
theorem data_w (n : Int) (h : WinS w0 w F sb rb mb N next l due m) (hN : N ≤ 100000) :
    Calls Tryd.prog 22 #[.pointer (some ⟨sb, 0, none⟩), .int .i64 n] w fun e w' => e = .returned (.tuple #[.string (bs ((dataS l n).getD [])), .bool (dataS l n).isSome]) ∧ WinS w0 w' F sb rb mb N next l due m ∧ Below w.heap.size w w' := by
  obtain ⟨v, h1, _⟩ := h.snd
  refine (data_any w0.heap.size sb v next l n w h1 (by have := h.few; omega)).mono ?_
  rintro e w' ⟨he, h3⟩
  exact ⟨he, h.below h3, h3⟩
/-- both begin -/
theorem WinS.begin {w1 w2 : World} {st : Int} (hs : SndAt w1 w.heap.size sb (.slice none 0 0) st []) (b1 : Below w.heap.size w w1) (hr : RcvAt w2 rb mb 0 st []) (b2 : Below w1.heap.size w1 w2) (h1 : w1.heap.size ≤ rb) (h2 : w1.heap.size ≤ mb) :
    WinS w w2 (fun x => x = sb ∨ x = rb ∨ x = mb) sb rb mb 0 st [] st [] := by
  have hsb := lt_of_block hs.cells
  refine ⟨⟨.slice none 0 0, hs.below b2, by simp [Value.ownBlock], by simp [Value.ownBlock], by simp [Value.ownBlock]⟩, ⟨0, Nat.le_refl _, hr⟩, .inl rfl, .inr (.inl rfl), .inr (.inr rfl), by omega, by omega, ?_, below_trans' b1 b2, (by intro k hk; cases hk), Nat.le_refl _, Nat.le_refl _⟩
  have := b1.size
  have := b2.size
  have := lt_of_block hr.cells
  have := hr.map.lt
  have := hs.lo
  rintro x (rfl | rfl | rfl) <;> omega
/-- a slice elsewhere stays -/
theorem own_later {F' : Nat → Prop} {base : Nat} {e : TypeId} {size : Nat} {v : Value} {n : Nat} {xs : List Value} (ho : w.ownsRow base e size v n xs) (hl : Later w w' F F') (hn : ∀ x, v.ownBlock = some x → ¬ F x) : w'.ownsRow base e size v n xs := own_other ho hl.1 hn
end
end Go.Proofs.YtnjkopjbognpiaaDoor
