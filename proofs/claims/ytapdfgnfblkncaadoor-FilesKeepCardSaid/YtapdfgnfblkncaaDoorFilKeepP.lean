/- Plain laws: what FilesKeep asks of plans that are done. No program is in sight. -/
import Derived.Test.YtapdfgnfblkncaaDoorFilBackP
import Derived.Test.YtapdfgnfblkncaaDoorFilPlan
namespace Go.Proofs.YtapdfgnfblkncaaDoor
open Go.RowKit
set_option linter.unusedVariables false

theorem plan_same : ∀ (a : List PL), planL a a = a.map fun x => (⟨kKeep, x.n⟩ : PS)
  | [] => planL_none
  | x :: a => by
    rw [planL_step (by simp), step_same rfl]
    show [(⟨kKeep, x.n⟩ : PS)] ++ planL ((x :: a).drop 1) ((x :: a).drop 1) = _
    rw [List.drop_succ_cons, List.drop_zero, plan_same a]; rfl
theorem same_len (a : List PL) : (planL a a).length = a.length := by rw [plan_same, List.length_map]
theorem same_kind (a : List PL) (k : Nat) (h : k < (planL a a).length) : (planL a a)[k].k = kKeep := by
  have : ∀ s ∈ planL a a, s.k = kKeep := by
    rw [plan_same]; intro s hs
    obtain ⟨x, _, rfl⟩ := List.mem_map.1 hs; rfl
  exact this _ (List.getElem_mem h)

def Sr (l : List PF) : Prop := l.Pairwise fun a b => ltL a.n b.n = true
theorem Sr.inj {l : List PF} (h : Sr l) {f g : PF} (hf : f ∈ l) (hg : g ∈ l) (e : f.n = g.n) : f = g := by
  have h1 := fgetL_of h hf
  have h2 := fgetL_of h hg
  rw [e, h2] at h1
  cases f; cases g
  simp only [] at e h1
  injection h1 with h1
  rw [e, h1]
theorem put_mem {l : List PF} (hs : Sr l) (n d : List UInt8) (g : PF) : g ∈ fputL l n d ↔ g = ⟨n, d⟩ ∨ (g ∈ l ∧ g.n ≠ n) := by
  induction l with
  | nil => simp [fputL]
  | cons f l ih =>
    have hp := List.pairwise_cons.1 hs
    unfold fputL
    by_cases h1 : f.n = n
    · rw [if_pos h1]
      constructor
      · intro h
        rcases List.mem_cons.1 h with h | h
        · exact .inl h
        · exact .inr ⟨List.mem_cons_of_mem _ h, by rw [← h1]; exact fun e => ltL_ne (hp.1 g h) e.symm⟩
      · rintro (h | ⟨h, hn⟩)
        · rw [h]; simp
        · rcases List.mem_cons.1 h with h | h
          · rw [h] at hn; exact absurd h1 hn
          · exact List.mem_cons_of_mem _ h
    · rw [if_neg h1]
      by_cases h2 : ltL n f.n = true
      · rw [if_pos h2]
        constructor
        · intro h
          rcases List.mem_cons.1 h with h | h
          · exact .inl h
          · refine .inr ⟨h, ?_⟩
            rcases List.mem_cons.1 h with h | h
            · rw [h]; exact h1
            · exact fun e => ltL_ne (ltL_trans h2 (hp.1 g h)) e.symm
        · rintro (h | ⟨h, hn⟩)
          · rw [h]; simp
          · exact List.mem_cons_of_mem _ h
      · rw [if_neg h2]
        constructor
        · intro h
          rcases List.mem_cons.1 h with h | h
          · rw [h]; exact .inr ⟨by simp, h1⟩
          · rcases (ih hp.2).1 h with h | ⟨h, hn⟩
            · exact .inl h
            · exact .inr ⟨List.mem_cons_of_mem _ h, hn⟩
        · rintro (h | ⟨h, hn⟩)
          · exact List.mem_cons_of_mem _ ((ih hp.2).2 (.inl h))
          · rcases List.mem_cons.1 h with h | h
            · rw [h]; simp
            · exact List.mem_cons_of_mem _ ((ih hp.2).2 (.inr ⟨h, hn⟩))
theorem put_get_self {l : List PF} (hs : Sr l) (n d : List UInt8) : fgetL (fputL l n d) n = some d :=
  fgetL_of (fputL_sorted n d hs) ((put_mem hs n d ⟨n, d⟩).2 (.inl rfl))
theorem put_get {l : List PF} (hs : Sr l) (n d : List UInt8) {f : PF} (hf : f ∈ l) : ∃ s, fgetL (fputL l n d) f.n = some s ∧ (f.n ≠ n → s = f.d) := by
  by_cases h : f.n = n
  · exact ⟨d, by rw [h]; exact put_get_self hs n d, fun e => absurd h e⟩
  · exact ⟨f.d, fgetL_of (fputL_sorted n d hs) ((put_mem hs n d f).2 (.inr ⟨hf, h⟩)), fun _ => rfl⟩

def dropsTo (q : List PS) (l : List PF) : List PF := q.foldl (fun l s => if s.k = kDrop then dropL l s.n else l) l
theorem dropsTo_nil (l : List PF) : dropsTo [] l = l := rfl
theorem dropsTo_hit {p : List PS} {k : Nat} (h : k < p.length) (e : p[k].k = kDrop) (l : List PF) : dropsTo (p.take (k + 1)) l = dropL (dropsTo (p.take k) l) p[k].n := by
  unfold dropsTo; rw [List.take_succ_eq_append_getElem h, List.foldl_append]; simp [e]
theorem dropsTo_miss {p : List PS} {k : Nat} (h : k < p.length) (e : p[k].k ≠ kDrop) (l : List PF) : dropsTo (p.take (k + 1)) l = dropsTo (p.take k) l := by
  unfold dropsTo; rw [List.take_succ_eq_append_getElem h, List.foldl_append]; simp [e]
theorem FWF.drops (q : List PS) : ∀ {l : List PF}, FWF l → FWF (dropsTo q l) := by
  induction q with
  | nil => intro l h; exact h
  | cons s q ih =>
    intro l h
    show FWF (dropsTo q (if s.k = kDrop then dropL l s.n else l))
    apply ih
    split
    · exact h.filter _
    · exact h
theorem dropsTo_mem (q : List PS) : ∀ (l : List PF) (f : PF), f ∈ dropsTo q l ↔ f ∈ l ∧ ∀ s ∈ q, s.k = kDrop → s.n ≠ f.n := by
  induction q with
  | nil => intro l f; simp [dropsTo]
  | cons s q ih =>
    intro l f
    show f ∈ dropsTo q (if s.k = kDrop then dropL l s.n else l) ↔ _
    rw [ih]
    by_cases h : s.k = kDrop
    · rw [if_pos h]
      unfold dropL
      rw [List.mem_filter]
      constructor
      · rintro ⟨⟨h1, h2⟩, h3⟩
        refine ⟨h1, fun t ht hk => ?_⟩
        rcases List.mem_cons.1 ht with rfl | ht
        · intro e; rw [e] at h2; simp at h2
        · exact h3 t ht hk
      · rintro ⟨h1, h2⟩
        exact ⟨⟨h1, by have := h2 s (by simp) h; simpa using fun e => this e.symm⟩, fun t ht hk => h2 t (by simp [ht]) hk⟩
    · rw [if_neg h]
      constructor
      · rintro ⟨h1, h2⟩
        refine ⟨h1, fun t ht hk => ?_⟩
        rcases List.mem_cons.1 ht with rfl | ht
        · exact absurd hk h
        · exact h2 t ht hk
      · rintro ⟨h1, h2⟩
        exact ⟨h1, fun t ht hk => h2 t (by simp [ht]) hk⟩

def datOf (l : List PF) (n : List UInt8) : List UInt8 := (fgetL l n).getD []
def putsTo (c : List PF) (q : List PS) (l : List PF) : List PF := q.foldl (fun l s => if s.k = kSend then fputL l s.n (datOf c s.n) else l) l
theorem putsTo_nil (c l : List PF) : putsTo c [] l = l := rfl
theorem putsTo_hit (c : List PF) {p : List PS} {k : Nat} (h : k < p.length) (e : p[k].k = kSend) (l : List PF) : putsTo c (p.take (k + 1)) l = fputL (putsTo c (p.take k) l) p[k].n (datOf c p[k].n) := by
  unfold putsTo; rw [List.take_succ_eq_append_getElem h, List.foldl_append]; simp [e]
theorem putsTo_miss (c : List PF) {p : List PS} {k : Nat} (h : k < p.length) (e : p[k].k ≠ kSend) (l : List PF) : putsTo c (p.take (k + 1)) l = putsTo c (p.take k) l := by
  unfold putsTo; rw [List.take_succ_eq_append_getElem h, List.foldl_append]; simp [e]
/-- a list that is well, of names of another one -/
structure Keeps (c l : List PF) : Prop where
  wf : FWF l
  names : ∀ f ∈ l, ∃ x ∈ c, x.n = f.n
theorem Keeps.put {c l : List PF} (hc : FWF c) (h : Keeps c l) {n u : List UInt8} (hu : fgetL c n = some u) : Keeps c (fputL l n u) := by
  have hm := fgetL_some hu
  obtain ⟨h1, h2⟩ := hc.each _ hm
  have hnm : ∀ f ∈ fputL l n u, ∃ x ∈ c, x.n = f.n := fun f hf => by
    rcases (put_mem h.wf.sorted n u f).1 hf with rfl | ⟨hf, _⟩
    · exact ⟨_, hm, rfl⟩
    · exact h.names f hf
  have hlen : (fputL l n u).length ≤ 20 := by
    have := nodup_sub (names_nodup (fputL_sorted n u h.wf.sorted)) (b := c.map PF.n) (fun y hy => by
      obtain ⟨f, hf, rfl⟩ := List.mem_map.1 hy
      obtain ⟨x, hx, e⟩ := hnm f hf
      exact List.mem_map.2 ⟨x, hx, e⟩)
    rw [List.length_map, List.length_map] at this
    exact Nat.le_trans this hc.few
  exact ⟨h.wf.put h1 h2 hlen, hnm⟩
theorem putsTo_mem {c l : List PF} (hc : FWF c) (hl : Keeps c l) : ∀ (q : List PS), (∀ s ∈ q, s.k = kSend → ∃ u, fgetL c s.n = some u) → Keeps c (putsTo c q l) ∧ ∀ f, f ∈ putsTo c q l ↔ (∃ s ∈ q, s.k = kSend ∧ f = ⟨s.n, datOf c s.n⟩) ∨ (f ∈ l ∧ ∀ s ∈ q, s.k = kSend → s.n ≠ f.n) := by
  intro q
  induction q generalizing l with
  | nil => intro _; exact ⟨hl, fun f => by simp [putsTo]⟩
  | cons s q ih =>
    intro hq
    have hq' : ∀ t ∈ q, t.k = kSend → ∃ u, fgetL c t.n = some u := fun t ht => hq t (by simp [ht])
    show Keeps c (putsTo c q (if s.k = kSend then fputL l s.n (datOf c s.n) else l)) ∧ ∀ f, f ∈ putsTo c q (if s.k = kSend then fputL l s.n (datOf c s.n) else l) ↔ _
    by_cases h : s.k = kSend
    · rw [if_pos h]
      obtain ⟨u, hu⟩ := hq s (by simp) h
      have hd : datOf c s.n = u := by unfold datOf; rw [hu]; rfl
      obtain ⟨h1, h2⟩ := ih (by rw [hd]; exact hl.put hc hu : Keeps c (fputL l s.n (datOf c s.n))) hq'
      refine ⟨h1, fun f => ?_⟩
      rw [h2, put_mem hl.wf.sorted]
      constructor
      · rintro (⟨t, ht, hk, e⟩ | ⟨rfl | ⟨hf, hn⟩, h3⟩)
        · exact .inl ⟨t, by simp [ht], hk, e⟩
        · exact .inl ⟨s, by simp, h, rfl⟩
        · refine .inr ⟨hf, fun t ht hk => ?_⟩
          rcases List.mem_cons.1 ht with rfl | ht
          · exact fun e => hn e.symm
          · exact h3 t ht hk
      · rintro (⟨t, ht, hk, e⟩ | ⟨hf, h3⟩)
        · rcases List.mem_cons.1 ht with rfl | ht
          · by_cases hx : ∃ t' ∈ q, t'.k = kSend ∧ t'.n = t.n
            · obtain ⟨t', ht', hk', e'⟩ := hx
              exact .inl ⟨t', ht', hk', by rw [e', e]⟩
            · exact .inr ⟨.inl e, fun t' ht' hk' e' => hx ⟨t', ht', hk', by rw [e', e]⟩⟩
          · exact .inl ⟨t, ht, hk, e⟩
        · exact .inr ⟨.inr ⟨hf, fun e => h3 s (by simp) h e.symm⟩, fun t ht hk => h3 t (by simp [ht]) hk⟩
    · rw [if_neg h]
      obtain ⟨h1, h2⟩ := ih hl hq'
      refine ⟨h1, fun f => ?_⟩
      rw [h2]
      constructor
      · rintro (⟨t, ht, hk, e⟩ | ⟨hf, h3⟩)
        · exact .inl ⟨t, by simp [ht], hk, e⟩
        · refine .inr ⟨hf, fun t ht hk => ?_⟩
          rcases List.mem_cons.1 ht with rfl | ht
          · exact absurd hk h
          · exact h3 t ht hk
      · rintro (⟨t, ht, hk, e⟩ | ⟨hf, h3⟩)
        · rcases List.mem_cons.1 ht with rfl | ht
          · exact absurd hk h
          · exact .inl ⟨t, ht, hk, e⟩
        · exact .inr ⟨hf, fun t ht hk => h3 t (by simp [ht]) hk⟩
theorem lines_unique {p q : List PL} (hp : Srt p) (hq : Srt q) (h : ∀ s, s ∈ p ↔ s ∈ q) : p = q := by
  induction p generalizing q with
  | nil =>
    cases q with
    | nil => rfl
    | cons s q => have := (h s).2 (by simp); cases this
  | cons s p ih =>
    cases q with
    | nil => have := (h s).1 (by simp); cases this
    | cons r q =>
      have hp' := Srt.cons.1 hp
      have hq' := Srt.cons.1 hq
      have e : s = r := by
        rcases List.mem_cons.1 ((h s).1 (by simp)) with e | e
        · exact e
        · rcases List.mem_cons.1 ((h r).2 (by simp)) with e2 | e2
          · exact e2.symm
          · have a := hq'.1 s e
            have b := hp'.1 r e2
            rw [ltL_asymm a] at b; cases b
      subst e
      rw [ih hp'.2 hq'.2 fun u => ?_]
      constructor
      · intro hu
        rcases List.mem_cons.1 ((h u).1 (List.mem_cons_of_mem _ hu)) with e | e
        · subst e; exact absurd rfl (ltL_ne (hp'.1 u hu))
        · exact e
      · intro hu
        rcases List.mem_cons.1 ((h u).2 (List.mem_cons_of_mem _ hu)) with e | e
        · subst e; exact absurd rfl (ltL_ne (hq'.1 u hu))
        · exact e
theorem Srt.inj {l : List PL} (h : Srt l) {x y : PL} (hx : x ∈ l) (hy : y ∈ l) (e : x.n = y.n) : x = y := by
  induction l with
  | nil => cases hx
  | cons z l ih =>
    have h' := Srt.cons.1 h
    rcases List.mem_cons.1 hx with e1 | hx1 <;> rcases List.mem_cons.1 hy with e2 | hy1
    · rw [e1, e2]
    · rw [e1] at e; exact absurd e (ltL_ne (h'.1 y hy1))
    · rw [e2] at e; exact absurd e.symm (ltL_ne (h'.1 x hx1))
    · exact ih h'.2 hx1 hy1
/-- the drops leave names of the first list alone -/
theorem drops_keeps {c t : List PF} (hc : FWF c) (ht : FWF t) : Keeps c (dropsTo (planL (c.map PF.line) (t.map PF.line)) t) := by
  have P := planL_law hc.lines.sorted ht.lines.sorted
  refine ⟨ht.drops _, fun f hf => ?_⟩
  obtain ⟨h1, h2⟩ := (dropsTo_mem _ _ _).1 hf
  by_cases h : ∃ x ∈ c, x.n = f.n
  · exact h
  · have := P.drop f.line (List.mem_map.2 ⟨f, h1, rfl⟩) (fun x hx e => by
      obtain ⟨g, hg, rfl⟩ := List.mem_map.1 hx
      exact h ⟨g, hg, e⟩)
    exact absurd rfl (h2 _ this rfl)
theorem sends_get {c t : List PF} (hc : FWF c) (ht : FWF t) : ∀ s ∈ planL (c.map PF.line) (t.map PF.line), s.k = kSend → ∃ u, fgetL c s.n = some u := by
  intro s hs hk
  rcases back_law hc ht s hs with ⟨_, u, hu, _⟩ | ⟨h, _⟩ | ⟨h, _⟩
  · exact ⟨u, hu⟩
  · rw [h] at hk; exact absurd hk (by decide)
  · rw [h] at hk; exact absurd hk (by decide)
/-- done by the plan, there is just what there was to be -/
theorem keep_law {c t : List PF} (hc : FWF c) (ht : FWF t) :
    (putsTo c (planL (c.map PF.line) (t.map PF.line)) (dropsTo (planL (c.map PF.line) (t.map PF.line)) t)).map PF.line = c.map PF.line := by
  have P := planL_law hc.lines.sorted ht.lines.sorted
  have SG := sends_get hc ht
  have DK := drops_keeps hc ht
  generalize hp : planL (c.map PF.line) (t.map PF.line) = p at *
  obtain ⟨K, M⟩ := putsTo_mem hc DK p SG
  refine lines_unique K.wf.lines.sorted hc.lines.sorted fun x => ?_
  constructor
  · intro hx
    obtain ⟨f, hf, rfl⟩ := List.mem_map.1 hx
    rcases (M f).1 hf with ⟨s, hs, hk, e⟩ | ⟨hf, h3⟩
    · obtain ⟨u, hu⟩ := SG s hs hk
      have hm := fgetL_some hu
      have hd : datOf c s.n = u := by unfold datOf; rw [hu]; rfl
      rw [e, hd]
      exact List.mem_map.2 ⟨_, hm, rfl⟩
    · obtain ⟨x, hx, e⟩ := DK.names f hf
      obtain ⟨hft, _⟩ := (dropsTo_mem _ _ _).1 hf
      have hxl : x.line ∈ c.map PF.line := List.mem_map.2 ⟨x, hx, rfl⟩
      by_cases hb : x.line ∈ t.map PF.line
      · have := Srt.inj ht.lines.sorted hb (List.mem_map.2 ⟨f, hft, rfl⟩) e
        rw [← this]; exact hxl
      · exact absurd e (h3 _ ((P.all _ hxl).1 hb) rfl)
  · intro hx
    obtain ⟨f, hf, rfl⟩ := List.mem_map.1 hx
    by_cases hb : f.line ∈ t.map PF.line
    · obtain ⟨g, hg, e⟩ := List.mem_map.1 hb
      have en : g.n = f.n := congrArg PL.n e
      refine List.mem_map.2 ⟨g, (M g).2 (.inr ⟨(dropsTo_mem _ _ _).2 ⟨hg, fun s hs hk hn => ?_⟩, fun s hs hk hn => ?_⟩), e⟩
      · rcases P.of s hs with ⟨h, _⟩ | ⟨h, _⟩ | ⟨_, _, h3⟩
        · rw [h] at hk; exact absurd hk (by decide)
        · rw [h] at hk; exact absurd hk (by decide)
        · exact h3 f.line (List.mem_map.2 ⟨f, hf, rfl⟩) (by rw [hn]; exact en.symm)
      · rcases P.of s hs with ⟨_, x, hxa, hxn, hxb⟩ | ⟨h, _⟩ | ⟨h, _⟩
        · have := Srt.inj hc.lines.sorted hxa (List.mem_map.2 ⟨f, hf, rfl⟩) (by rw [hxn, hn]; exact en)
          rw [this] at hxb; exact hxb hb
        · rw [h] at hk; exact absurd hk (by decide)
        · rw [h] at hk; exact absurd hk (by decide)
    · have hs := (P.all _ (List.mem_map.2 ⟨f, hf, rfl⟩)).1 hb
      have hd : datOf c f.n = f.d := by unfold datOf; rw [fgetL_of hc.sorted hf]; rfl
      exact List.mem_map.2 ⟨f, (M f).2 (.inl ⟨_, hs, rfl, by show f = ⟨f.n, datOf c f.n⟩; rw [hd]⟩), rfl⟩
end Go.Proofs.YtapdfgnfblkncaaDoor
