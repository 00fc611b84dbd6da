/- WindowOnce: what holds of both sides, of the net, and of what was told; the contracts over it. -/
import Derived.Test.YtiomenchdaondaaDoorWinded
import Derived.Test.YtiomenchdaondaaDoorAppIs
namespace Go.Proofs.YtiomenchdaondaaDoor
open Go.RowKit
set_option linter.unusedVariables false
attribute [local irreducible] takeR sTake ackMore aheadB numI

structure OnS (w1 w : World) (F : Nat → Prop) (sb rb mb N NN : Nat) (st : Int) (T : Nat → List UInt8) (net : Value) (ps : List PK) (told : Value) (t d : Nat) (jw js : List Nat) : Prop where
  win : ∃ m, WinS w1 w F sb rb mb NN (numI st N) (jw.map (pkI st T)) (numI st d) m ∧ Once st T N d m js
  jl : ∀ j ∈ jw, j < N
  jsrt : jw.Pairwise (· < ·)
  netO : w.ownsRow w1.heap.size 44 2 net ps.length (kcells ps)
  netok : ∀ p ∈ ps, ∃ i, i < N ∧ p = pkI st T i
  netF : ∀ x, net.ownBlock = some x → ¬ F x
  toldO : w.ownsRow w1.heap.size 9 1 told t (((List.range t).map T).map fun x => Value.string (bs x))
  toldF : ∀ x, told.ownBlock = some x → ¬ F x
  nt : ∀ x, net.ownBlock = some x → told.ownBlock ≠ some x
section
variable {w1 w w' : World} {F F' : Nat → Prop} {sb rb mb N NN : Nat} {st : Int} {T : Nat → List UInt8} {net told : Value} {ps : List PK} {t d : Nat} {jw js : List Nat}
theorem OnS.bel (h : OnS w1 w F sb rb mb N NN st T net ps told t d jw js) : Below w1.heap.size w1 w := by obtain ⟨m, h, _⟩ := h.win; exact h.bel
theorem OnS.le (h : OnS w1 w F sb rb mb N NN st T net ps told t d jw js) : d ≤ N := by obtain ⟨m, _, h⟩ := h.win; exact h.w.le
theorem OnS.to (h : OnS w1 w F sb rb mb N NN st T net ps told t d jw js) (L : Later w w' F F') {N' NN' d' : Nat} {jw' js' : List Nat} (hN : N ≤ N') (hw : ∃ m, WinS w1 w' F' sb rb mb NN' (numI st N') (jw'.map (pkI st T)) (numI st d') m ∧ Once st T N' d' m js') (hl : ∀ j ∈ jw', j < N') (hs : jw'.Pairwise (· < ·)) :
    OnS w1 w' F' sb rb mb N' NN' st T net ps told t d' jw' js' :=
  ⟨hw, hl, hs, own_other h.netO L.1 h.netF, fun p hp => by obtain ⟨i, hi, e⟩ := h.netok p hp; exact ⟨i, by omega, e⟩,
    fun x hx hf => by
      have := (h.netO.lt x hx).2
      rcases L.2 x hf with hf | hf
      · exact h.netF x hx hf
      · omega, own_other h.toldO L.1 h.toldF,
    fun x hx hf => by
      have := (h.toldO.lt x hx).2
      rcases L.2 x hf with hf | hf
      · exact h.toldF x hx hf
      · omega, h.nt⟩
theorem OnS.below (h : OnS w1 w F sb rb mb N NN st T net ps told t d jw js) (hb : Below w.heap.size w w') : OnS w1 w' F sb rb mb N NN st T net ps told t d jw js := by
  obtain ⟨m, hw, ho⟩ := h.win
  exact h.to (Later.below hb F) (Nat.le_refl _) ⟨m, hw.below hb, ho⟩ h.jl h.jsrt
theorem OnS.more (h : OnS w1 w F sb rb mb N NN st T net ps told t d jw js) {NN' : Nat} (hn : NN ≤ NN') : OnS w1 w F sb rb mb N NN' st T net ps told t d jw js := by
  obtain ⟨m, hw, ho⟩ := h.win
  exact ⟨⟨m, hw.more hn, ho⟩, h.jl, h.jsrt, h.netO, h.netok, h.netF, h.toldO, h.toldF, h.nt⟩
/-- a world that differs in one row that is not the windows' -/
theorem WinS.row {l : List PK} {next due : Int} {m : List (Int × List UInt8)} (h : WinS w1 w F sb rb mb NN next l due m) {b : Option Nat} (hg : w.grownBy w' b) (hb : ∀ x, b = some x → ¬ F x ∧ w1.heap.size ≤ x) : WinS w1 w' F sb rb mb NN next l due m := by
  obtain ⟨v, h1, h2, h3, h4⟩ := h.snd
  obtain ⟨n, hn, hr⟩ := h.rcv
  have hc : Chg w w' (fun x => b = some x) := ⟨hg.os, hg.tape, hg.output, hg.size, fun k hk hn => hg.block k hk (fun e => hn e.symm)⟩
  exact ⟨⟨v, h1.kept hc (fun e => (hb sb e).1 h.fs) (fun x hx e => (hb x e).1 (h2 x hx)), h2, h3, h4⟩, ⟨n, hn, hr.kept hc (fun e => (hb rb e).1 h.fr) (fun e => (hb mb e).1 h.fm)⟩, h.fs, h.fr, h.fm, h.n1, h.n2,
    fun x hx => ⟨(h.lo x hx).1, Nat.lt_of_lt_of_le (h.lo x hx).2 hg.size⟩, hc.below h.bel (fun x e => (hb x e).2), h.ok, h.few, h.fewm⟩
/-- the net has turned -/
theorem OnS.net_to (h : OnS w1 w F sb rb mb N NN st T net ps told t d jw js) {net' : Value} {ps' : List PK} (hg : w.grownBy w' net.ownBlock) (ho : w'.ownsRow w1.heap.size 44 2 net' ps'.length (kcells ps')) (hp : ∀ p ∈ ps', ∃ i, i < N ∧ p = pkI st T i)
    (ha : net'.ownBlock = net.ownBlock ∨ ∀ x, net'.ownBlock = some x → w.heap.size ≤ x) : OnS w1 w' F sb rb mb N NN st T net' ps' told t d jw js := by
  obtain ⟨m, hw, hon⟩ := h.win
  have hc : Chg w w' (fun x => net.ownBlock = some x) := ⟨hg.os, hg.tape, hg.output, hg.size, fun k hk hn => hg.block k hk (fun e => hn e.symm)⟩
  refine ⟨⟨m, hw.row hg (fun x hx => ⟨h.netF x hx, (h.netO.lt x hx).1⟩), hon⟩, h.jl, h.jsrt, ho, hp, fun x hx hf => ?_, own_other h.toldO hc (fun x hx e => h.nt x e hx), h.toldF, fun x hx e => ?_⟩
  · rcases ha with ha | ha
    · rw [ha] at hx; exact h.netF x hx hf
    · have := ha x hx; have := (hw.lo x hf).2; omega
  · rcases ha with ha | ha
    · rw [ha] at hx; exact h.nt x hx e
    · have := ha x hx; have := (h.toldO.lt x e).2; omega
/-- more is told -/
theorem OnS.told_to (h : OnS w1 w F sb rb mb N NN st T net ps told t d jw js) {told' : Value} {t' : Nat} (hg : w.grownBy w' told.ownBlock) (ho : w'.ownsRow w1.heap.size 9 1 told' t' (((List.range t').map T).map fun x => Value.string (bs x)))
    (ha : told'.ownBlock = told.ownBlock ∨ told'.ownBlock = some w.heap.size) : OnS w1 w' F sb rb mb N NN st T net ps told' t' d jw js := by
  obtain ⟨m, hw, hon⟩ := h.win
  have hc : Chg w w' (fun x => told.ownBlock = some x) := ⟨hg.os, hg.tape, hg.output, hg.size, fun k hk hn => hg.block k hk (fun e => hn e.symm)⟩
  refine ⟨⟨m, hw.row hg (fun x hx => ⟨h.toldF x hx, (h.toldO.lt x hx).1⟩), hon⟩, h.jl, h.jsrt, own_other h.netO hc (fun x hx e => h.nt x hx e), h.netok, h.netF, ho, fun x hx hf => ?_, fun x hx e => ?_⟩
  · rcases ha with ha | ha
    · rw [ha] at hx; exact h.toldF x hx hf
    · rw [ha] at hx; cases hx; have := (hw.lo _ hf).2; omega
  · rcases ha with ha | ha
    · rw [ha] at e; exact h.nt x hx e
    · rw [ha] at e; cases e; have := (h.netO.lt _ hx).2; omega
theorem kcells_rowc' (l : List PK) : kcells l = rowc (fun k => Value.int .i64 k.n) (fun k => Value.string (bs k.d)) l := rfl
theorem kcells_take (l : List PK) (k : Nat) : (kcells l).take (k * 2) = kcells (l.take k) := by rw [kcells_rowc', rowc_take, ← kcells_rowc']
theorem kcells_drop (l : List PK) (k : Nat) : (kcells l).drop (k * 2) = kcells (l.drop k) := by
  induction l generalizing k with
  | nil => simp [kcells_nil]
  | cons o l ih =>
    match k with
    | 0 => simp
    | k + 1 =>
      rw [List.drop_succ_cons, kcells_cons, ← ih k, show (k + 1) * 2 = k * 2 + 2 by omega]
      rfl
theorem kcells_one' (l : List PK) : ∀ u ∈ kcells l, u.oneCell' = true := rowc_oneCell _ _ (fun _ => ⟨rfl, rfl⟩) l
/-- the head of the net, and its tail, as sources -/
theorem net_head {W : World} {base g cap m : Nat} {e : TypeId} {qs : List PK} (h : w.ownsRow base e 2 (.slice (some ⟨g, 0, none⟩) qs.length cap) qs.length (kcells qs)) (hb : Below w.heap.size w W) (hm : m ≤ qs.length) : SliceIs W (.slice (some ⟨g, 0, none⟩) m cap) 2 (kcells (qs.take m)) := by
  rw [← kcells_take]
  exact SliceIs.ownedK (own_cut (owns_below h hb) hm)
theorem net_tail {W : World} {base g cap m : Nat} {e : TypeId} {qs : List PK} (h : w.ownsRow base e 2 (.slice (some ⟨g, 0, none⟩) qs.length cap) qs.length (kcells qs)) (hb : Below w.heap.size w W) (hm : m < qs.length) (o : Nat) (ho : cap ≠ m + 1 → o = (m + 1) * 2) : SliceIs W (.slice (some ⟨g, o, none⟩) (qs.length - (m + 1)) (cap - (m + 1))) 2 (kcells (qs.drop (m + 1))) := by
  obtain ⟨g', cap', hv, _, _, hc1, hc2, hcell, _⟩ := owns_open (owns_below h hb) (by omega)
  cases hv
  refine .inr ⟨_, _, _, rfl, by omega, by unfold maxLen at *; omega, by rw [kcells_len, List.length_drop], fun i u hu => ?_⟩
  have hi : i < (kcells (qs.drop (m + 1))).length := (List.getElem?_eq_some_iff.1 hu).1
  rw [kcells_len, List.length_drop] at hi
  have ho' := ho (by omega)
  subst ho'
  rw [← kcells_drop, List.getElem?_drop] at hu
  have := hcell _ _ hu
  rw [Addr.add_lit]
  exact this
theorem net_zero {W : World} {g o : Nat} : SliceIs W (.slice (some ⟨g, o, none⟩) 0 0) 2 [] := .inr ⟨_, _, _, rfl, Nat.le_refl _, Nat.zero_le _, rfl, fun i u hu => by simp at hu⟩
theorem del_own {base m : Nat} {e : TypeId} {v : Value} {qs : List PK} (hm : m < qs.length) (h : w.ownsRow base e 2 v (m + (qs.length - (m + 1))) (kcells (qs.take m) ++ kcells (qs.drop (m + 1)))) : w.ownsRow base e 2 v (qs.take m ++ qs.drop (m + 1)).length (kcells (qs.take m ++ qs.drop (m + 1))) := by
  rw [kcells_append, List.length_append, List.length_take, List.length_drop, Nat.min_eq_left (by omega)]
  exact h
theorem del_own0 {base m : Nat} {e : TypeId} {v : Value} {qs : List PK} (hm : m < qs.length) (hc : qs.length ≤ m + 1) (h : w.ownsRow base e 2 v (m + 0) (kcells (qs.take m) ++ [])) : w.ownsRow base e 2 v (qs.take m ++ qs.drop (m + 1)).length (kcells (qs.take m ++ qs.drop (m + 1))) := by
  rw [List.drop_of_length_le hc, List.append_nil, List.length_take, Nat.min_eq_left (by omega)]
  simpa using h
theorem del_mem {m : Nat} {qs : List PK} {p : PK} (h : p ∈ qs.take m ++ qs.drop (m + 1)) : p ∈ qs := by
  rcases List.mem_append.1 h with h | h
  · exact List.mem_of_mem_take h
  · exact List.mem_of_mem_drop h
theorem below_own {w2 w3 : World} {size : Nat} {e : TypeId} {v : Value} {n : Nat} {xs : List Value} (h : Below w.heap.size w w2) (ho : w2.ownsRow w.heap.size e size v n xs) (hg : w2.grownBy w3 v.ownBlock) : Below w.heap.size w w3 :=
  h.grown hg h.size (fun j hj => (ho.lt j hj).1)
theorem strs_one (l : List (List UInt8)) : ∀ u ∈ l.map (fun x => Value.string (bs x)), u.oneCell' = true := by
  intro u hu
  obtain ⟨x, _, rfl⟩ := List.mem_map.1 hu
  rfl
theorem told_own {base d d2 : Nat} {e : TypeId} {v : Value} (hd : d ≤ d2) (h : w.ownsRow base e 1 v (d + (d2 - d)) ((((List.range d).map T).map fun x => Value.string (bs x)) ++ ((((List.range d2).drop d).map T).map fun x => Value.string (bs x)))) :
    w.ownsRow base e 1 v d2 (((List.range d2).map T).map fun x => Value.string (bs x)) := by
  have e1 : List.range d = (List.range d2).take d := by rw [List.take_range, Nat.min_eq_left hd]
  rw [e1, ← List.map_append, ← List.map_append, List.take_append_drop, Nat.add_sub_cancel' hd] at h
  exact h
theorem text_prefix {a : Addr} {n c d2 : Nat} {l : List (List UInt8)} (h : SliceIs w (.slice (some a) n c) 1 (l.map fun x => Value.string (bs x))) (hd : d2 ≤ l.length) : SliceIs w (.slice (some a) d2 c) 1 ((l.take d2).map fun x => Value.string (bs x)) := by
  rcases h with ⟨h, _⟩ | ⟨a', len, cap, e, h2, h3, h4, h5⟩
  · cases h
  · cases e
    simp at h4
    refine .inr ⟨a, d2, c, rfl, by omega, h3, by simp; omega, fun i u hi => h5 i u ?_⟩
    rw [List.getElem?_map, List.getElem?_take] at hi
    rw [List.getElem?_map]
    split at hi
    · exact hi
    · simp at hi
theorem own_zero {base : Nat} {e : TypeId} {size : Nat} {v : Value} {m : Nat} {xs : List Value} (h : w.ownsRow base e size v (0 + m) ([] ++ xs)) : w.ownsRow base e size v m xs := by simpa using h
theorem grown_none_below (h : w.grownBy w' (Value.ownBlock (.slice none 0 0))) : Below w.heap.size w w' := ⟨h.os, h.tape, h.output, h.size, fun k hk => h.block k hk (by simp [Value.ownBlock])⟩
theorem below_grown_any (h : Below w.heap.size w w') (r : Option Nat) : w.grownBy w' r := ⟨h.os, h.tape, h.output, h.size, fun k hk _ => h.block k hk⟩
theorem pk_n (st : Int) (T : Nat → List UInt8) (i : Nat) : (pkI st T i).n = numI st i := rfl
theorem pk_d (st : Int) (T : Nat → List UInt8) (i : Nat) : (pkI st T i).d = T i := rfl
theorem range_pk (st : Int) (T : Nat → List UInt8) (k : Nat) : (List.range k).map (pkI st T) ++ [⟨numI st k, T k⟩] = (List.range (k + 1)).map (pkI st T) := by
  rw [List.range_succ, List.map_append]; rfl
theorem on_push (E : Nat → Addr) (h : WinS w1 w F sb rb mb NN (numI st N) ((List.range N).map (pkI st T)) (numI st 0) []) (hT : (T N).length ≤ 60) (hN : N ≤ 30) (hNN : NN ≤ 100000) (hB : Has E w1 2) (hF : Has E w1 8) :
    Calls Tryd.prog 13 #[.pointer (some ⟨sb, 0, none⟩), .string (bs (T N))] w fun e w' => e = .returned (.tuple #[.int .i64 (numI st N), .nilIface]) ∧ ∃ F', WinS w1 w' F' sb rb mb (NN + 1) (numI st (N + 1)) ((List.range (N + 1)).map (pkI st T)) (numI st 0) [] ∧ Later w w' F F' := by
  have hc : pushC (numI st N) ((List.range N).map (pkI st T)) (T N) = 0 := by
    match N, hN, hT with
    | 0, _, hT => exact pushC_nil (by omega)
    | N + 1, hN, hT =>
      rw [List.range_succ_eq_map, List.map_cons]
      refine pushC_ok (by omega) ?_
      rw [pk_n, numI_diff st (N + 1) 0 (by omega) (by omega), if_pos (by omega)]; omega
  have hp := push_w E (T N) h (by unfold maxLen; omega) hB hF hNN
  rw [hc, ev_zero] at hp
  refine hp.mono ?_
  rintro e w' ⟨he, F', h1, h2⟩
  refine ⟨he, F', ?_, h2⟩
  have e1 : pushL 0 (numI st N) ((List.range N).map (pkI st T)) (T N) = (List.range (N + 1)).map (pkI st T) := range_pk st T N
  have e2 : pushX 0 (numI st N) = numI st (N + 1) := numI_succ st N
  rw [e1, e2] at h1
  exact h1
theorem OnS.begin (h : WinS w1 w F sb rb mb NN (numI st N) ((List.range N).map (pkI st T)) (numI st 0) []) (hn : w.ownsRow w1.heap.size 44 2 net N (kcells ((List.range N).map (pkI st T)))) (hf : ∀ x, net.ownBlock = some x → ¬ F x) :
    OnS w1 w F sb rb mb N NN st T net ((List.range N).map (pkI st T)) (.slice none 0 0) 0 0 (List.range N) (List.range N) :=
  ⟨⟨[], h, Once.start st T N⟩, fun j hj => by simpa using hj, List.pairwise_lt_range, by simpa using hn, fun p hp => by
    obtain ⟨i, hi, rfl⟩ := List.mem_map.1 hp
    exact ⟨i, by simpa using hi, rfl⟩, hf, World.ownsRow_nil _ _ _ _, by simp [Value.ownBlock], by simp [Value.ownBlock]⟩
/-- what an ack has told, ready for the sender -/
def Acked (w1 w : World) (F : Nat → Prop) (sb rb mb N NN : Nat) (st : Int) (T : Nat → List UInt8) (d : Nat) (jw js : List Nat) (r : Value) : Prop :=
  ∃ m, WinS w1 w F sb rb mb NN (numI st N) (jw.map (pkI st T)) (numI st d) m ∧ Once st T N d m js ∧ SliceIs w r 1 ((ackMore (numI st d) m).map (Value.int .i64)) ∧ ∀ s n c, r = .slice (some s) n c → ¬ F s.block
theorem on_ack (h : OnS w1 w F sb rb mb N NN st T net ps told t d jw js) : Calls Tryd.prog 17 #[.pointer (some ⟨rb, 0, none⟩)] w fun e w' => ∃ r, e = .returned (.agg #[.int .i64 (numI st d), r]) ∧ OnS w1 w' F sb rb mb N NN st T net ps told t d jw js ∧ Acked w1 w' F sb rb mb N NN st T d jw js r := by
  obtain ⟨m, hw, ho⟩ := h.win
  refine (rack_w hw).mono ?_
  rintro e w' ⟨r, he, h1, h2, h3, h4⟩
  exact ⟨r, he, h.below h4, m, h3, ho, h1, h2⟩
theorem on_stake {r : Value} (h : OnS w1 w F sb rb mb N NN st T net ps told t d jw js) (ha : Acked w1 w F sb rb mb N NN st T d jw js r) (hc : js ⊆ jw) (hN : N ≤ 30) (hNN : NN ≤ 100000) :
    Calls Tryd.prog 16 #[.pointer (some ⟨sb, 0, none⟩), .agg #[.int .i64 (numI st d), r]] w fun e w' => ∃ n F' js', e = .returned (.int .i64 n) ∧ OnS w1 w' F' sb rb mb N NN st T net ps told t d js' js' ∧ (d = N → js' = []) := by
  obtain ⟨m, hw, ho, h1, h2⟩ := ha
  have ho' : Once st T N d m jw := ho.more (fun j hj => hc hj) h.jl h.jsrt
  obtain ⟨js', e1, e2, e3⟩ := sTake_law hN ho'
  refine (stake_w r (numI st d) (ackMore (numI st d) m) hw h1 h2 hNN).mono ?_
  rintro e w' ⟨he, F', h3, h4⟩
  rw [e1] at h3
  exact ⟨_, F', js', he, h.to h4 (Nat.le_refl _) ⟨m, h3, e2⟩ e2.lt e2.sorted, e3⟩
theorem on_kept (h : OnS w1 w F sb rb mb N NN st T net ps told t d jw js) (hNN : NN ≤ 100000) : Calls Tryd.prog 18 #[.pointer (some ⟨sb, 0, none⟩)] w fun e w' => ∃ r, e = .returned r ∧ w'.ownsRow w.heap.size 3 1 r jw.length (jw.map fun j => Value.int .i64 (numI st j)) ∧ OnS w1 w' F sb rb mb N NN st T net ps told t d jw js ∧ w.heap.size ≤ w'.heap.size := by
  obtain ⟨m, hw, ho⟩ := h.win
  refine (kept_w hw hNN).mono ?_
  rintro e w' ⟨r, he, h1, h2, h3⟩
  refine ⟨r, he, ?_, h.below h3, h3.size⟩
  rw [List.length_map, List.map_map] at h1
  exact h1
theorem dataS_pk {jw : List Nat} {j : Nat} (hj : j ∈ jw) (hl : ∀ j ∈ jw, j < N) (hN : N ≤ 30) : dataS (jw.map (pkI st T)) (numI st j) = some (T j) := by
  unfold dataS
  have : ((jw.map (pkI st T)).find? fun k => k.n == numI st j) = some (pkI st T j) := by
    induction jw with
    | nil => cases hj
    | cons x r ih =>
      rw [List.map_cons]
      by_cases e : x = j
      · subst e; rw [List.find?_cons_of_pos (by simp [pk_n])]
      · have hx := hl x (by simp)
        have hjl := hl j hj
        rw [List.find?_cons_of_neg (by simp only [pk_n, beq_iff_eq]; exact fun h => e (numI_inj (by omega) (by omega) h))]
        refine ih ?_ (fun y hy => hl y (by simp [hy]))
        rcases List.mem_cons.1 hj with h | h
        · exact absurd h.symm e
        · exact h
  rw [this]; rfl
theorem on_data {j : Nat} (h : OnS w1 w F sb rb mb N NN st T net ps told t d jw js) (hj : j ∈ jw) (hN : N ≤ 30) (hNN : NN ≤ 100000) : Calls Tryd.prog 19 #[.pointer (some ⟨sb, 0, none⟩), .int .i64 (numI st j)] w fun e w' => e = .returned (.tuple #[.string (bs (T j)), .bool true]) ∧ OnS w1 w' F sb rb mb N NN st T net ps told t d jw js ∧ Below w.heap.size w w' := by
  obtain ⟨m, hw, ho⟩ := h.win
  refine (data_w (numI st j) hw hNN).mono ?_
  rintro e w' ⟨he, h2, h3⟩
  rw [dataS_pk hj h.jl hN] at he
  exact ⟨he, h.below h3, h3⟩
/-- a frame comes -/
theorem on_take {i : Nat} (h : OnS w1 w F sb rb mb N NN st T net ps told d d jw js) (hi : i < N) (hT : (T i).length ≤ maxLen) (hN : N ≤ 30) (hNN : NN ≤ 100000) :
    Calls Tryd.prog 14 #[.pointer (some ⟨rb, 0, none⟩), .int .i64 (numI st i), .string (bs (T i))] w fun e w' => ∃ r d', e = .returned r ∧ d ≤ d' ∧ SliceIs w' r 1 ((((List.range d').drop d).map T).map fun x => Value.string (bs x)) ∧
      OnS w1 w' F sb rb mb N (NN + 1) st T net ps told d d' jw (js.filter (· ≠ i)) ∧ Later w w' F F := by
  obtain ⟨m, hw, ho⟩ := h.win
  obtain ⟨d', e1, e2, e3, e4⟩ := takeR_law hN ho i hi
  refine (rtake_w (numI st i) (T i) hw (wf_well (numI_bd st i)) hT hNN).mono ?_
  rintro e w' ⟨r, he, h1, h2, h3⟩
  rw [e2] at h1
  rw [e3] at h2
  exact ⟨r, d', he, e1, SliceIs.owned h1, h.to h3 (Nat.le_refl _) ⟨_, h2, e4⟩ h.jl h.jsrt, h3⟩
theorem OnS.js_more (h : OnS w1 w F sb rb mb N NN st T net ps told t d jw js) (hs : ∀ j ∈ js, j ∈ jw) : OnS w1 w F sb rb mb N NN st T net ps told t d jw jw := by
  obtain ⟨m, hw, ho⟩ := h.win
  exact ⟨⟨m, hw, ho.more hs h.jl h.jsrt⟩, h.jl, h.jsrt, h.netO, h.netok, h.netF, h.toldO, h.toldF, h.nt⟩
theorem OnS.apart (h : OnS w1 w F sb rb mb N NN st T net ps told t d jw js) {r : Value} {e : TypeId} {size n : Nat} {xs : List Value} (hr : w'.ownsRow w.heap.size e size r n xs) : ∀ x, r.ownBlock = some x → ¬ F x ∧ told.ownBlock ≠ some x := by
  obtain ⟨m, hw, _⟩ := h.win
  intro x hx
  have h1 := (hr.lt x hx).1
  exact ⟨fun hf => by have := (hw.lo x hf).2; omega, fun e => by have := (h.toldO.lt x e).2; omega⟩
theorem told_apart {r told told' : Value} {base : Nat} {e : TypeId} {size n : Nat} {xs : List Value} (hr : w.ownsRow base e size r n xs) (h : ∀ x, r.ownBlock = some x → ¬ F x ∧ told.ownBlock ≠ some x) (ha : told'.ownBlock = told.ownBlock ∨ told'.ownBlock = some w.heap.size) : ∀ x, r.ownBlock = some x → ¬ F x ∧ told'.ownBlock ≠ some x := by
  intro x hx
  refine ⟨(h x hx).1, fun e => ?_⟩
  rcases ha with ha | ha
  · rw [ha] at e; exact (h x hx).2 e
  · rw [ha] at e; cases e; have := (hr.lt _ hx).2; omega
theorem told_row {r told : Value} {base : Nat} {e : TypeId} {size n : Nat} {xs : List Value} (hr : w.ownsRow base e size r n xs) (h : ∀ x, r.ownBlock = some x → ¬ F x ∧ told.ownBlock ≠ some x) (hg : w.grownBy w' told.ownBlock) : w'.ownsRow base e size r n xs :=
  hr.kept hg (by
    rcases hx : r.ownBlock with _ | x
    · exact .inl rfl
    · exact .inr (fun e => (h x hx).2 e.symm))
theorem OnS.all (h : OnS w1 w F sb rb mb N NN st T net ps told t d jw js) (he : js = []) : d = N := by
  subst he
  obtain ⟨m, _, ho⟩ := h.win
  exact ho.all
theorem sorted_from (js : List Nat) : ∀ a, js.Pairwise (· < ·) → (∀ j ∈ js, a ≤ j ∧ j < N) → js.length ≤ N - a := by
  induction js with
  | nil => intro a _ _; simp
  | cons x r ih =>
    intro a hs hl
    have hp := List.pairwise_cons.1 hs
    have hx := hl x (by simp)
    have := ih (x + 1) hp.2 (fun j hj => ⟨hp.1 j hj, (hl j (by simp [hj])).2⟩)
    simp only [List.length_cons]; omega
theorem sorted_le {js : List Nat} (hs : js.Pairwise (· < ·)) (hl : ∀ j ∈ js, j < N) : js.length ≤ N := by
  have := sorted_from js 0 hs (fun j hj => ⟨Nat.zero_le _, hl j hj⟩)
  omega
theorem drop_first {js : List Nat} {k : Nat} (hs : js.Pairwise (· < ·)) (hk : k < js.length) : (js.drop k).filter (· ≠ js[k]) = js.drop (k + 1) := by
  rw [List.drop_eq_getElem_cons hk, List.filter_cons_of_neg (by simp), List.filter_eq_self]
  intro x hx
  have hp : (js.drop k).Pairwise (· < ·) := hs.sublist (List.drop_sublist _ _)
  rw [List.drop_eq_getElem_cons hk] at hp
  have := (List.pairwise_cons.1 hp).1 x hx
  simp; omega
end
end Go.Proofs.YtiomenchdaondaaDoor
