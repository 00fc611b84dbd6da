/- Texts of one proof, one behind the other: FilKeepP, XferPlain, GateMap, XferMap. -/
import Derived.Test.YtppkeophochgiaaGreatDoorB15
import Derived.Test.YtppkeophochgiaaGreatDoorB14
import Derived.Test.YtppkeophochgiaaGreatDoorB12
import Derived.Test.YtppkeophochgiaaGreatDoorB18
import Derived.Test.YtppkeophochgiaaGreatDoorB19
import Derived.Test.YtppkeophochgiaaGreatDoorB20
import Derived.Test.YtppkeophochgiaaGreatDoorB21
import Derived.Test.YtppkeophochgiaaGreatDoorB24
import Derived.Test.YtppkeophochgiaaGreatDoorB22
import Derived.Test.YtppkeophochgiaaGreatDoorB04
import Derived.Test.YtppkeophochgiaaGreatDoorB09
import Derived.Maps.OwnSet
import Derived.Maps.Views
import Derived.Test.YtppkeophochgiaaGreatDoorB10
import Derived.Test.YtppkeophochgiaaGreatDoorB06
import Derived.Sort.Walk0
import Derived.Sort.KeysCollected
/- Plain laws: what FilesKeep asks of plans that are done. No program is in sight. -/
namespace Go.Proofs.YtppkeophochgiaaGreatDoor
open Go.RowKit
set_option linter.unusedVariables false

def Sr (l : List PF) : Prop := l.Pairwise fun a b => ltL a.n b.n = true
theorem Sr.inj {l : List PF} (h : Sr l) {f g : PF} (hf : f ∈ l) (hg : g ∈ l) (e : f.n = g.n) : f = g := by
  have h1 := fgetL_of h hf
  have h2 := fgetL_of h hg
  rw [e, h2] at h1
  cases f; cases g
  simp only [] at e h1
  injection h1 with h1
  rw [e, h1]
theorem put_mem {l : List PF} (hs : Sr l) (n d : List UInt8) (g : PF) : g ∈ fputL l n d ↔ g = ⟨n, d⟩ ∨ (g ∈ l ∧ g.n ≠ n) := by
  induction l with
  | nil => simp [fputL]
  | cons f l ih =>
    have hp := List.pairwise_cons.1 hs
    unfold fputL
    by_cases h1 : f.n = n
    · rw [if_pos h1]
      constructor
      · intro h
        rcases List.mem_cons.1 h with h | h
        · exact .inl h
        · exact .inr ⟨List.mem_cons_of_mem _ h, by rw [← h1]; exact fun e => ltL_ne (hp.1 g h) e.symm⟩
      · rintro (h | ⟨h, hn⟩)
        · rw [h]; simp
        · rcases List.mem_cons.1 h with h | h
          · rw [h] at hn; exact absurd h1 hn
          · exact List.mem_cons_of_mem _ h
    · rw [if_neg h1]
      by_cases h2 : ltL n f.n = true
      · rw [if_pos h2]
        constructor
        · intro h
          rcases List.mem_cons.1 h with h | h
          · exact .inl h
          · refine .inr ⟨h, ?_⟩
            rcases List.mem_cons.1 h with h | h
            · rw [h]; exact h1
            · exact fun e => ltL_ne (ltL_trans h2 (hp.1 g h)) e.symm
        · rintro (h | ⟨h, hn⟩)
          · rw [h]; simp
          · exact List.mem_cons_of_mem _ h
      · rw [if_neg h2]
        constructor
        · intro h
          rcases List.mem_cons.1 h with h | h
          · rw [h]; exact .inr ⟨by simp, h1⟩
          · rcases (ih hp.2).1 h with h | ⟨h, hn⟩
            · exact .inl h
            · exact .inr ⟨List.mem_cons_of_mem _ h, hn⟩
        · rintro (h | ⟨h, hn⟩)
          · exact List.mem_cons_of_mem _ ((ih hp.2).2 (.inl h))
          · rcases List.mem_cons.1 h with h | h
            · rw [h]; simp
            · exact List.mem_cons_of_mem _ ((ih hp.2).2 (.inr ⟨h, hn⟩))
def dropsTo (q : List PS) (l : List PF) : List PF := q.foldl (fun l s => if s.k = kDrop then dropL l s.n else l) l
theorem dropsTo_hit {p : List PS} {k : Nat} (h : k < p.length) (e : p[k].k = kDrop) (l : List PF) : dropsTo (p.take (k + 1)) l = dropL (dropsTo (p.take k) l) p[k].n := by
  unfold dropsTo; rw [List.take_succ_eq_append_getElem h, List.foldl_append]; simp [e]
theorem dropsTo_miss {p : List PS} {k : Nat} (h : k < p.length) (e : p[k].k ≠ kDrop) (l : List PF) : dropsTo (p.take (k + 1)) l = dropsTo (p.take k) l := by
  unfold dropsTo; rw [List.take_succ_eq_append_getElem h, List.foldl_append]; simp [e]
theorem FWF.drops (q : List PS) : ∀ {l : List PF}, FWF l → FWF (dropsTo q l) := by
  induction q with
  | nil => intro l h; exact h
  | cons s q ih =>
    intro l h
    show FWF (dropsTo q (if s.k = kDrop then dropL l s.n else l))
    apply ih
    split
    · exact h.filter _
    · exact h
theorem dropsTo_mem (q : List PS) : ∀ (l : List PF) (f : PF), f ∈ dropsTo q l ↔ f ∈ l ∧ ∀ s ∈ q, s.k = kDrop → s.n ≠ f.n := by
  induction q with
  | nil => intro l f; simp [dropsTo]
  | cons s q ih =>
    intro l f
    show f ∈ dropsTo q (if s.k = kDrop then dropL l s.n else l) ↔ _
    rw [ih]
    by_cases h : s.k = kDrop
    · rw [if_pos h]
      unfold dropL
      rw [List.mem_filter]
      constructor
      · rintro ⟨⟨h1, h2⟩, h3⟩
        refine ⟨h1, fun t ht hk => ?_⟩
        rcases List.mem_cons.1 ht with rfl | ht
        · intro e; rw [e] at h2; simp at h2
        · exact h3 t ht hk
      · rintro ⟨h1, h2⟩
        exact ⟨⟨h1, by have := h2 s (by simp) h; simpa using fun e => this e.symm⟩, fun t ht hk => h2 t (by simp [ht]) hk⟩
    · rw [if_neg h]
      constructor
      · rintro ⟨h1, h2⟩
        refine ⟨h1, fun t ht hk => ?_⟩
        rcases List.mem_cons.1 ht with rfl | ht
        · exact absurd hk h
        · exact h2 t ht hk
      · rintro ⟨h1, h2⟩
        exact ⟨h1, fun t ht hk => h2 t (by simp [ht]) hk⟩

def datOf (l : List PF) (n : List UInt8) : List UInt8 := (fgetL l n).getD []
def putsTo (c : List PF) (q : List PS) (l : List PF) : List PF := q.foldl (fun l s => if s.k = kSend then fputL l s.n (datOf c s.n) else l) l
/-- a list that is well, of names of another one -/
structure Keeps (c l : List PF) : Prop where
  wf : FWF l
  names : ∀ f ∈ l, ∃ x ∈ c, x.n = f.n
theorem Keeps.put {c l : List PF} (hc : FWF c) (h : Keeps c l) {n u : List UInt8} (hu : fgetL c n = some u) : Keeps c (fputL l n u) := by
  have hm := fgetL_some hu
  obtain ⟨h1, h2⟩ := hc.each _ hm
  have hnm : ∀ f ∈ fputL l n u, ∃ x ∈ c, x.n = f.n := fun f hf => by
    rcases (put_mem h.wf.sorted n u f).1 hf with rfl | ⟨hf, _⟩
    · exact ⟨_, hm, rfl⟩
    · exact h.names f hf
  have hlen : (fputL l n u).length ≤ 20 := by
    have := nodup_sub (names_nodup (fputL_sorted n u h.wf.sorted)) (b := c.map PF.n) (fun y hy => by
      obtain ⟨f, hf, rfl⟩ := List.mem_map.1 hy
      obtain ⟨x, hx, e⟩ := hnm f hf
      exact List.mem_map.2 ⟨x, hx, e⟩)
    rw [List.length_map, List.length_map] at this
    exact Nat.le_trans this hc.few
  exact ⟨h.wf.put h1 h2 hlen, hnm⟩
theorem putsTo_mem {c l : List PF} (hc : FWF c) (hl : Keeps c l) : ∀ (q : List PS), (∀ s ∈ q, s.k = kSend → ∃ u, fgetL c s.n = some u) → Keeps c (putsTo c q l) ∧ ∀ f, f ∈ putsTo c q l ↔ (∃ s ∈ q, s.k = kSend ∧ f = ⟨s.n, datOf c s.n⟩) ∨ (f ∈ l ∧ ∀ s ∈ q, s.k = kSend → s.n ≠ f.n) := by
  intro q
  induction q generalizing l with
  | nil => intro _; exact ⟨hl, fun f => by simp [putsTo]⟩
  | cons s q ih =>
    intro hq
    have hq' : ∀ t ∈ q, t.k = kSend → ∃ u, fgetL c t.n = some u := fun t ht => hq t (by simp [ht])
    show Keeps c (putsTo c q (if s.k = kSend then fputL l s.n (datOf c s.n) else l)) ∧ ∀ f, f ∈ putsTo c q (if s.k = kSend then fputL l s.n (datOf c s.n) else l) ↔ _
    by_cases h : s.k = kSend
    · rw [if_pos h]
      obtain ⟨u, hu⟩ := hq s (by simp) h
      have hd : datOf c s.n = u := by unfold datOf; rw [hu]; rfl
      obtain ⟨h1, h2⟩ := ih (by rw [hd]; exact hl.put hc hu : Keeps c (fputL l s.n (datOf c s.n))) hq'
      refine ⟨h1, fun f => ?_⟩
      rw [h2, put_mem hl.wf.sorted]
      constructor
      · rintro (⟨t, ht, hk, e⟩ | ⟨rfl | ⟨hf, hn⟩, h3⟩)
        · exact .inl ⟨t, by simp [ht], hk, e⟩
        · exact .inl ⟨s, by simp, h, rfl⟩
        · refine .inr ⟨hf, fun t ht hk => ?_⟩
          rcases List.mem_cons.1 ht with rfl | ht
          · exact fun e => hn e.symm
          · exact h3 t ht hk
      · rintro (⟨t, ht, hk, e⟩ | ⟨hf, h3⟩)
        · rcases List.mem_cons.1 ht with rfl | ht
          · by_cases hx : ∃ t' ∈ q, t'.k = kSend ∧ t'.n = t.n
            · obtain ⟨t', ht', hk', e'⟩ := hx
              exact .inl ⟨t', ht', hk', by rw [e', e]⟩
            · exact .inr ⟨.inl e, fun t' ht' hk' e' => hx ⟨t', ht', hk', by rw [e', e]⟩⟩
          · exact .inl ⟨t, ht, hk, e⟩
        · exact .inr ⟨.inr ⟨hf, fun e => h3 s (by simp) h e.symm⟩, fun t ht hk => h3 t (by simp [ht]) hk⟩
    · rw [if_neg h]
      obtain ⟨h1, h2⟩ := ih hl hq'
      refine ⟨h1, fun f => ?_⟩
      rw [h2]
      constructor
      · rintro (⟨t, ht, hk, e⟩ | ⟨hf, h3⟩)
        · exact .inl ⟨t, by simp [ht], hk, e⟩
        · refine .inr ⟨hf, fun t ht hk => ?_⟩
          rcases List.mem_cons.1 ht with rfl | ht
          · exact absurd hk h
          · exact h3 t ht hk
      · rintro (⟨t, ht, hk, e⟩ | ⟨hf, h3⟩)
        · rcases List.mem_cons.1 ht with rfl | ht
          · exact absurd hk h
          · exact .inl ⟨t, ht, hk, e⟩
        · exact .inr ⟨hf, fun t ht hk => h3 t (by simp [ht]) hk⟩
theorem lines_unique {p q : List PL} (hp : Srt p) (hq : Srt q) (h : ∀ s, s ∈ p ↔ s ∈ q) : p = q := by
  induction p generalizing q with
  | nil =>
    cases q with
    | nil => rfl
    | cons s q => have := (h s).2 (by simp); cases this
  | cons s p ih =>
    cases q with
    | nil => have := (h s).1 (by simp); cases this
    | cons r q =>
      have hp' := Srt.cons.1 hp
      have hq' := Srt.cons.1 hq
      have e : s = r := by
        rcases List.mem_cons.1 ((h s).1 (by simp)) with e | e
        · exact e
        · rcases List.mem_cons.1 ((h r).2 (by simp)) with e2 | e2
          · exact e2.symm
          · have a := hq'.1 s e
            have b := hp'.1 r e2
            rw [ltL_asymm a] at b; cases b
      subst e
      rw [ih hp'.2 hq'.2 fun u => ?_]
      constructor
      · intro hu
        rcases List.mem_cons.1 ((h u).1 (List.mem_cons_of_mem _ hu)) with e | e
        · subst e; exact absurd rfl (ltL_ne (hp'.1 u hu))
        · exact e
      · intro hu
        rcases List.mem_cons.1 ((h u).2 (List.mem_cons_of_mem _ hu)) with e | e
        · subst e; exact absurd rfl (ltL_ne (hq'.1 u hu))
        · exact e
theorem Srt.inj {l : List PL} (h : Srt l) {x y : PL} (hx : x ∈ l) (hy : y ∈ l) (e : x.n = y.n) : x = y := by
  induction l with
  | nil => cases hx
  | cons z l ih =>
    have h' := Srt.cons.1 h
    rcases List.mem_cons.1 hx with e1 | hx1 <;> rcases List.mem_cons.1 hy with e2 | hy1
    · rw [e1, e2]
    · rw [e1] at e; exact absurd e (ltL_ne (h'.1 y hy1))
    · rw [e2] at e; exact absurd e.symm (ltL_ne (h'.1 x hx1))
    · exact ih h'.2 hx1 hy1
/-- the drops leave names of the first list alone -/
theorem drops_keeps {c t : List PF} (hc : FWF c) (ht : FWF t) : Keeps c (dropsTo (planL (c.map PF.line) (t.map PF.line)) t) := by
  have P := planL_law hc.lines.sorted ht.lines.sorted
  refine ⟨ht.drops _, fun f hf => ?_⟩
  obtain ⟨h1, h2⟩ := (dropsTo_mem _ _ _).1 hf
  by_cases h : ∃ x ∈ c, x.n = f.n
  · exact h
  · have := P.drop f.line (List.mem_map.2 ⟨f, h1, rfl⟩) (fun x hx e => by
      obtain ⟨g, hg, rfl⟩ := List.mem_map.1 hx
      exact h ⟨g, hg, e⟩)
    exact absurd rfl (h2 _ this rfl)
theorem sends_get {c t : List PF} (hc : FWF c) (ht : FWF t) : ∀ s ∈ planL (c.map PF.line) (t.map PF.line), s.k = kSend → ∃ u, fgetL c s.n = some u := by
  intro s hs hk
  rcases back_law hc ht s hs with ⟨_, u, hu, _⟩ | ⟨h, _⟩ | ⟨h, _⟩
  · exact ⟨u, hu⟩
  · rw [h] at hk; exact absurd hk (by decide)
  · rw [h] at hk; exact absurd hk (by decide)
/-- done by the plan, there is just what there was to be -/
theorem keep_law {c t : List PF} (hc : FWF c) (ht : FWF t) :
    (putsTo c (planL (c.map PF.line) (t.map PF.line)) (dropsTo (planL (c.map PF.line) (t.map PF.line)) t)).map PF.line = c.map PF.line := by
  have P := planL_law hc.lines.sorted ht.lines.sorted
  have SG := sends_get hc ht
  have DK := drops_keeps hc ht
  generalize hp : planL (c.map PF.line) (t.map PF.line) = p at *
  obtain ⟨K, M⟩ := putsTo_mem hc DK p SG
  refine lines_unique K.wf.lines.sorted hc.lines.sorted fun x => ?_
  constructor
  · intro hx
    obtain ⟨f, hf, rfl⟩ := List.mem_map.1 hx
    rcases (M f).1 hf with ⟨s, hs, hk, e⟩ | ⟨hf, h3⟩
    · obtain ⟨u, hu⟩ := SG s hs hk
      have hm := fgetL_some hu
      have hd : datOf c s.n = u := by unfold datOf; rw [hu]; rfl
      rw [e, hd]
      exact List.mem_map.2 ⟨_, hm, rfl⟩
    · obtain ⟨x, hx, e⟩ := DK.names f hf
      obtain ⟨hft, _⟩ := (dropsTo_mem _ _ _).1 hf
      have hxl : x.line ∈ c.map PF.line := List.mem_map.2 ⟨x, hx, rfl⟩
      by_cases hb : x.line ∈ t.map PF.line
      · have := Srt.inj ht.lines.sorted hb (List.mem_map.2 ⟨f, hft, rfl⟩) e
        rw [← this]; exact hxl
      · exact absurd e (h3 _ ((P.all _ hxl).1 hb) rfl)
  · intro hx
    obtain ⟨f, hf, rfl⟩ := List.mem_map.1 hx
    by_cases hb : f.line ∈ t.map PF.line
    · obtain ⟨g, hg, e⟩ := List.mem_map.1 hb
      have en : g.n = f.n := congrArg PL.n e
      refine List.mem_map.2 ⟨g, (M g).2 (.inr ⟨(dropsTo_mem _ _ _).2 ⟨hg, fun s hs hk hn => ?_⟩, fun s hs hk hn => ?_⟩), e⟩
      · rcases P.of s hs with ⟨h, _⟩ | ⟨h, _⟩ | ⟨_, _, h3⟩
        · rw [h] at hk; exact absurd hk (by decide)
        · rw [h] at hk; exact absurd hk (by decide)
        · exact h3 f.line (List.mem_map.2 ⟨f, hf, rfl⟩) (by rw [hn]; exact en.symm)
      · rcases P.of s hs with ⟨_, x, hxa, hxn, hxb⟩ | ⟨h, _⟩ | ⟨h, _⟩
        · have := Srt.inj hc.lines.sorted hxa (List.mem_map.2 ⟨f, hf, rfl⟩) (by rw [hxn, hn]; exact en)
          rw [this] at hxb; exact hxb hb
        · rw [h] at hk; exact absurd hk (by decide)
        · rw [h] at hk; exact absurd hk (by decide)
    · have hs := (P.all _ (List.mem_map.2 ⟨f, hf, rfl⟩)).1 hb
      have hd : datOf c f.n = f.d := by unfold datOf; rw [fgetL_of hc.sorted hf]; rfl
      exact List.mem_map.2 ⟨f, (M f).2 (.inl ⟨_, hs, rfl, by show f = ⟨f.n, datOf c f.n⟩; rw [hd]⟩), rfl⟩
end Go.Proofs.YtppkeophochgiaaGreatDoor
/- The plain model of a transfer: what the destination knows, what is under way, and what each deed makes of it. No program is in sight. -/
namespace Go.Proofs.YtppkeophochgiaaGreatDoor
open Go.RowKit
set_option linter.unusedVariables false

structure XS where
  fr : List PF
  tt : List PF
  ge : Nat
  net : List (List UInt8 × Bool)
  ep : Nat
  sq : Nat
  ask : PFr
  age : Nat
  W : Int
  L : Int
  T : Int
  G : Int
  ln : List PL
  kn : Bool
  fu : List (List UInt8)
  dn : Bool
namespace XS
/-- a frame put into the net -/
def put (f : PFr) (x : XS) : XS := if frC f = 0 then { x with net := x.net ++ [(frT f, false)] } else x
/-- the source is asked -/
def asks (k : UInt8) (d : List UInt8) (x : XS) : XS := put ⟨k, x.ep, x.sq, d⟩ { x with ask := ⟨k, x.ep, x.sq, d⟩, sq := (x.sq + 1) % 65536, age := 0 }
/-- what is there of a file -/
def old (n : List UInt8) (x : XS) : List UInt8 := if x.fu.contains n then [] else (fgetL x.tt n).getD []
/-- a name and a text, one behind the other -/
def two (a b : List UInt8) : List UInt8 := (num a.length ++ a) ++ (num b.length ++ b)
/-- a file is asked for -/
def want (n : List UInt8) (x : XS) : XS := asks 103 (two n (sText (blks (sizeN (x.old n).length) (x.old n)) (sizeN (x.old n).length))) x
/-- what the destination does now -/
def next (x : XS) : XS :=
  if x.kn = false then asks 108 [] x
  else match (planL x.ln (x.tt.map PF.line)).find? (fun s => s.k == kSend) with
    | some s => want s.n x
    | none => { x with tt := dropsTo (planL x.ln (x.tt.map PF.line)) x.tt, dn := true, ask := zfr }
def listed (d : List UInt8) (x : XS) : XS := if (readLn d).2 = 0 then { x with ln := (readLn d).1, kn := true } else x
/-- room for a file -/
def room (x : XS) : List PF := if 20 ≤ x.tt.length then x.tt.filter fun f => x.ln.any fun y => y.n == f.n else x.tt
def gave (n : List UInt8) (ops : List POp) (y : PL) (x : XS) : XS :=
  if (whC (x.old n) (sizeN (x.old n).length) ops y.N y.S).1 ≠ 0 then { x with fu := n :: x.fu }
  else if (putF x.room n (whL (x.old n) (sizeN (x.old n).length) ops y.N y.S)).1 = 0 then { x with tt := fputL x.room n (whL (x.old n) (sizeN (x.old n).length) ops y.N y.S) } else x
def given (d : List UInt8) (x : XS) : XS :=
  if rEnd (rtR (rtR d 0) (rtC d 0)) (rtC (rtR d 0) (rtC d 0)) ≠ 0 then x
  else if (readO (rtT (rtR d 0) (rtC d 0))).2 ≠ 0 then x
  else match x.ln.find? (fun y => y.n == rtT d 0) with
    | none => x
    | some y => gave (rtT d 0) (readO (rtT (rtR d 0) (rtC d 0))).1 y x
def good (x : XS) : XS := { x with W := goodW x.W x.L x.G, T := 2, G := goodG x.W x.L x.G }
def bad (x : XS) : XS := { x with W := 1, L := badL x.W, T := badT x.T, G := 0 }
/-- a frame that came to the destination -/
def answered (f : PFr) (x : XS) : XS :=
  if x.dn = true ∨ x.ask.k = 0 ∨ f.q ≠ x.ask.q ∨ x.ge = 0 ∨ f.e ≠ x.ge then x
  else next (if f.k = 109 then listed f.d x.good else given f.d x.good)
/-- the source's answer to a request for a file -/
def ansG (f : PFr) (x : XS) : XS :=
  if rEnd (rtR (rtR f.d 0) (rtC f.d 0)) (rtC (rtR f.d 0) (rtC f.d 0)) ≠ 0 then x
  else if (readSg (rtT (rtR f.d 0) (rtC f.d 0))).2.2 ≠ 0 then x
  else match fgetL x.fr (rtT f.d 0) with
    | none => x
    | some data =>
      let ops := mkOps (readSg (rtT (rtR f.d 0) (rtC f.d 0))).1 (readSg (rtT (rtR f.d 0) (rtC f.d 0))).2.1 data
      if (dtC ops).1 = 0 then put ⟨111, f.e, f.q, two (rtT f.d 0) (dtL ops)⟩ x else x
def answer (f : PFr) (x : XS) : XS := if f.k = 108 then put ⟨109, f.e, f.q, flText (x.fr.map PF.line)⟩ x else ansG f x
/-- a packet comes -/
def come (k : Nat) (x : XS) : XS :=
  match x.net[k]? with
  | none => x
  | some p =>
    let y := { x with net := x.net.eraseIdx k }
    if (decF p.1).2 ≠ 0 then y
    else if (decF p.1).1.k = 108 ∨ (decF p.1).1.k = 103 then answer (decF p.1).1 y else answered (decF p.1).1 y
def tick (x : XS) : XS :=
  if x.dn = true ∨ x.ask.k = 0 then x
  else if x.T ≤ ((x.age + 1 : Nat) : Int) then put x.ask { x with age := 0 }.bad else { x with age := x.age + 1 }
/-- a bit of a text is turned -/
def flip (s : List UInt8) (q : Nat) : List UInt8 := s.set (q % (8 * s.length) / 8) ((s[q % (8 * s.length) / 8]?.getD 0) ^^^ (1 <<< UInt8.ofNat (q % (8 * s.length) % 8)))
def turn (q : Nat) (x : XS) : XS :=
  match x.net with
  | [] => x
  | p :: r => if p.2 = true then x else { x with net := (flip p.1 q, true) :: r }
def begins (x : XS) : XS :=
  if x.dn = true then x
  else if 2147483648 ≤ x.ge then x
  else next { x with ge := x.ge + 1, ep := x.ge + 1, sq := 0, ask := zfr, age := 0, W := 1, L := 32, T := 2, G := 0, ln := [], kn := false, fu := [] }
def start (fr t : List PF) : XS := begins ⟨fr, t, 0, [], 0, 0, zfr, 0, 1, 32, 2, 0, [], false, [], false⟩
/-- a number is done -/
def act (v : Int) (x : XS) : XS :=
  if v < 0 then x
  else
    let k := v.toNat % 8; let q := v.toNat / 8
    if k = 6 then x.tick else if k = 7 then x.begins
    else if x.net = [] then x
    else if k < 3 then x.come (q % x.net.length)
    else if k = 3 then { x with net := x.net.eraseIdx (q % x.net.length) }
    else if k = 4 then (if x.net.length < 500 then { x with net := x.net ++ (x.net[q % x.net.length]?).toList } else x)
    else x.turn q
/-- packets come, the first ones first -/
def comes : Nat → XS → XS
  | 0, x => x
  | n + 1, x => if x.net = [] then x else comes n (x.come 0)
def fin : Nat → XS → XS
  | 0, x => x
  | n + 1, x => if x.dn = true then x else fin n (comes x.net.length x).tick
end XS
end Go.Proofs.YtppkeophochgiaaGreatDoor
/- A gate's map: names, each with its last epoch. -/
namespace Go.Proofs.YtppkeophochgiaaGreatDoor
open Go.RowKit
set_option linter.unusedVariables false

abbrev GM := List (List UInt8 × Nat)
/-- the last epoch of a name (0: none) -/
def glk : GM → List UInt8 → Nat
  | [], _ => 0
  | p :: m, k => if p.1 = k then p.2 else glk m k
def ghas (m : GM) (k : List UInt8) : Bool := m.any fun p => decide (p.1 = k)
/-- a name's epoch is set -/
def gput : GM → List UInt8 → Nat → GM
  | [], k, v => [(k, v)]
  | p :: m, k, v => if p.1 = k then (k, v) :: m else p :: gput m k v
theorem glk_same (m : GM) (k : List UInt8) (v : Nat) : glk (gput m k v) k = v := by
  induction m with
  | nil => simp [gput, glk]
  | cons p m ih =>
    unfold gput
    by_cases h : p.1 = k
    · rw [if_pos h]; simp [glk]
    · rw [if_neg h]; unfold glk; rw [if_neg h]; exact ih
theorem glk_other (m : GM) {k k' : List UInt8} (v : Nat) (h : k' ≠ k) : glk (gput m k v) k' = glk m k' := by
  induction m with
  | nil =>
    have h2 : k ≠ k' := fun e => h e.symm
    simp [gput, glk, h2]
  | cons p m ih =>
    unfold gput
    by_cases hp : p.1 = k
    · rw [if_pos hp]
      unfold glk
      rw [if_neg (fun e => h (by rw [← e])), if_neg (fun e => h (by rw [← e, hp]))]
    · rw [if_neg hp]
      unfold glk
      by_cases hk : p.1 = k'
      · rw [if_pos hk, if_pos hk]
      · rw [if_neg hk, if_neg hk]; exact ih
theorem ghas_same (m : GM) (k : List UInt8) (v : Nat) : ghas (gput m k v) k = true := by
  induction m with
  | nil => simp [gput, ghas]
  | cons p m ih =>
    unfold gput
    by_cases h : p.1 = k
    · rw [if_pos h]; simp [ghas]
    · rw [if_neg h]
      unfold ghas at ih ⊢
      rw [List.any_cons, ih]; simp
theorem ghas_other (m : GM) {k k' : List UInt8} (v : Nat) (h : k' ≠ k) : ghas (gput m k v) k' = ghas m k' := by
  induction m with
  | nil =>
    unfold gput ghas
    have h1 : decide (k = k') = false := by simpa using fun e : k = k' => h e.symm
    simp only [List.any_cons, h1, List.any_nil, Bool.or_false]
  | cons p m ih =>
    unfold gput
    by_cases hp : p.1 = k
    · rw [if_pos hp]
      unfold ghas
      rw [List.any_cons, List.any_cons]
      have h1 : decide (k = k') = false := by simpa using fun e : k = k' => h e.symm
      have h2 : decide (p.1 = k') = false := by simpa [hp] using fun e : k = k' => h e.symm
      simp only [h1, h2]
    · rw [if_neg hp]
      unfold ghas at ih ⊢
      rw [List.any_cons, List.any_cons, ih]
/-- names that are there have an epoch; each once -/
structure GOk (m : GM) : Prop where
  pos : ∀ p ∈ m, 1 ≤ p.2
  nd : (m.map Prod.fst).Nodup
theorem gput_fst (m : GM) (k : List UInt8) (v : Nat) : (gput m k v).map Prod.fst = if ghas m k then m.map Prod.fst else m.map Prod.fst ++ [k] := by
  induction m with
  | nil => simp [gput, ghas]
  | cons p m ih =>
    unfold gput
    by_cases hk : p.1 = k
    · rw [if_pos hk]; simp [ghas, hk]
    · rw [if_neg hk, List.map_cons, ih]
      have e : ghas (p :: m) k = ghas m k := by simp [ghas, hk]
      rw [e]
      split <;> simp
theorem ghas_mem (m : GM) (k : List UInt8) : ghas m k = true ↔ k ∈ m.map Prod.fst := by
  unfold ghas; simp
theorem GOk.put {m : GM} (h : GOk m) {k : List UInt8} {v : Nat} (hv : 1 ≤ v) : GOk (gput m k v) := by
  refine ⟨?_, ?_⟩
  · have hp := h.pos
    clear h
    induction m with
    | nil => intro p hp; simp [gput] at hp; rw [hp]; exact hv
    | cons q m ih =>
      intro p hm
      unfold gput at hm
      by_cases hq : q.1 = k
      · rw [if_pos hq] at hm
        rcases List.mem_cons.1 hm with rfl | hm
        · exact hv
        · exact hp p (by simp [hm])
      · rw [if_neg hq] at hm
        rcases List.mem_cons.1 hm with rfl | hm
        · exact hp p (by simp)
        · exact ih (fun r hr => hp r (by simp [hr])) p hm
  · rw [gput_fst]
    split
    · exact h.nd
    · rename_i hk
      rw [List.nodup_append]
      refine ⟨h.nd, by simp, fun a ha b hb => ?_⟩
      simp only [List.mem_singleton] at hb
      subst hb
      rintro rfl
      exact hk ((ghas_mem m a).2 ha)
theorem gput_len (m : GM) (k : List UInt8) (v : Nat) : (gput m k v).length = if ghas m k then m.length else m.length + 1 := by
  have := congrArg List.length (gput_fst m k v)
  rw [List.length_map] at this
  rw [this]
  split <;> simp
/-! ### in memory -/
def GMapIs (w : World) (b n : Nat) (m : GM) : Prop :=
  ∃ D : DataW Unit, w.ownsMap Tryz.prog 9 (plainElem Tryz.prog 3) b n D ∧
    (∀ k : List UInt8, Maps.has D (.string k) = ghas m k ∧ D.atKey (.string k) (.lit (.int .i64 0)) = .lit (.int .i64 (glk m k : Nat))) ∧ Maps.size D = m.length
theorem GMapIs.made (w : World) : GMapIs (w.alloc (.map #[] 0)) w.heap.size 0 [] :=
  ⟨.map [], World.ownsMap_made w _ _ _, fun k => ⟨rfl, rfl⟩, rfl⟩
theorem GMapIs.lt {w : World} {b n : Nat} {m : GM} (h : GMapIs w b n m) : b < w.heap.size := by obtain ⟨D, h, _⟩ := h; exact h.lt
theorem GMapIs.kept {w w' : World} {b n : Nat} {m : GM} (h : GMapIs w b n m) (hb : w'.heap[b]? = w.heap[b]?) : GMapIs w' b n m := by
  obtain ⟨D, ⟨es, clock, h1, h2⟩, h3⟩ := h
  exact ⟨D, ⟨es, clock, hb.trans h1, h2⟩, h3⟩
theorem GMapIs.mono {w : World} {b n : Nat} {m : GM} (h : GMapIs w b n m) {n' : Nat} (hn : n ≤ n') : GMapIs w b n' m := by
  obtain ⟨D, h1, h2⟩ := h
  exact ⟨D, h1.mono hn, h2⟩
theorem gkeyed : Maps.Keyed Tryz.prog 9 := Maps.string_keyed Tryz.underlying9
theorem gkey_of {k : List UInt8} (h : k.length ≤ maxLen) : keyOf Tryz.prog 9 (.string (bs k)) = some (.string k) := by
  have := WideMaps.keyOf_string_mk (P := Tryz.prog) Tryz.underlying9 (s := bs k) (by rw [bs_size]; exact h)
  rwa [bs_list] at this
theorem gkeyLit (k : List UInt8) : WideAt.IsKeyLit (.string k) := by trivial
set_option maxRecDepth 100000 in
/-- 'm[k]' -/
theorem GMapIs.look {w : World} {b n : Nat} {m : GM} (h : GMapIs w b n m) {k : List UInt8} (hk : k.length ≤ maxLen) :
    (Instr.lookup 110 (.map (some b)) (.string (bs k)) false).run Tryz.prog w = .ok (.int .i64 (glk m k : Nat)) w := by
  obtain ⟨D, h1, h2, _⟩ := h
  obtain ⟨c, hr, hv, _⟩ := h1.lookup_int gkeyed Tryz.underlying110 Tryz.underlying3 (by kernel_rfl) (gkey_of hk)
  rw [(h2 k).2] at hv
  have : c = (glk m k : Nat) := by simpa using hv.symm
  subst this
  exact hr
set_option maxRecDepth 100000 in
theorem GMapIs.store {w : World} {b n : Nat} {m : GM} (h : GMapIs w b n m) {k : List UInt8} (hk : k.length ≤ maxLen) {v : Nat} (hv : v ≤ 9223372036854775807) (hn : n < maxLen) :
    ∃ w', (Instr.mapUpdate 110 (.map (some b)) (.string (bs k)) (.int .i64 v)).run Tryz.prog w = .ok () w' ∧ GMapIs w' b (n + 1) (gput m k v) ∧ w.mapTurned w' b := by
  obtain ⟨D, h1, h2, h3⟩ := h
  obtain ⟨w', hr, ho, ht⟩ := h1.store gkeyed Tryz.underlying110 hn (gkey_of hk) (plainElem_int Tryz.underlying3 (a := (v : Int)) (WalkArith.wf_i64 (by omega)))
  refine ⟨w', hr, ⟨_, ho, fun k' => ?_, ?_⟩, ht⟩
  · by_cases e : k' = k
    · subst e
      rw [Maps.has_put_same h1.isMap (gkeyLit k'), Maps.atKey_put_same h1.isMap (gkeyLit k'), glk_same, ghas_same]
      exact ⟨rfl, rfl⟩
    · have ne : Lit.string k' ≠ .string k := fun h => e (by injection h)
      rw [Maps.has_put_other ne, Maps.atKey_put_other ne, glk_other m v e, ghas_other m v e]
      exact h2 k'
  · rw [Maps.size_put (h1.tidy gkeyed), (h2 k).1, h3, gput_len]
end Go.Proofs.YtppkeophochgiaaGreatDoor
/- Plain laws of gates: the package's map in any order, the document's list by names; their texts. No program is in sight. -/
namespace Go.Proofs.YtppkeophochgiaaGreatDoor
open Go.RowKit
set_option linter.unusedVariables false

def GSrt (l : GM) : Prop := l.Pairwise fun a b => ltL a.1 b.1 = true
/-! ### what a gate answers -/
def mayC (m : GM) (k : List UInt8) : Nat := if nameB k = false then 5 else if glk m k = 0 ∧ 20 ≤ m.length then 8 else 0
def opC' (m : GM) (k : List UInt8) : Nat := if mayC m k ≠ 0 then mayC m k else if 2147483648 ≤ glk m k then 2 else 0
def opN (m : GM) (k : List UInt8) : Nat := if opC' m k = 0 then glk m k + 1 else 0
def adC (m : GM) (k : List UInt8) (n : Int) : Nat := if glk m k = 0 then 6 else if (glk m k : Int) = n then 0 else 11
def opM (m : GM) (k : List UInt8) : GM := if opC' m k = 0 then gput m k (glk m k + 1) else m
theorem mayC_name {m : GM} {k : List UInt8} (h : nameB k = false) : mayC m k = 5 := by unfold mayC; rw [if_pos h]
theorem mayC_full {m : GM} {k : List UInt8} (h : nameB k = true) (h2 : glk m k = 0 ∧ 20 ≤ m.length) : mayC m k = 8 := by unfold mayC; rw [if_neg (by simp [h]), if_pos h2]
theorem mayC_ok {m : GM} {k : List UInt8} (h : nameB k = true) (h2 : ¬ (glk m k = 0 ∧ 20 ≤ m.length)) : mayC m k = 0 := by unfold mayC; rw [if_neg (by simp [h]), if_neg h2]
theorem op_may {m : GM} {k : List UInt8} (h : mayC m k ≠ 0) : opC' m k = mayC m k ∧ opN m k = 0 ∧ opM m k = m := by
  have e : opC' m k = mayC m k := by unfold opC'; rw [if_pos h]
  exact ⟨e, by unfold opN; rw [if_neg (by rw [e]; exact h)], by unfold opM; rw [if_neg (by rw [e]; exact h)]⟩
theorem op_top {m : GM} {k : List UInt8} (h : mayC m k = 0) (h2 : 2147483648 ≤ glk m k) : opC' m k = 2 ∧ opN m k = 0 ∧ opM m k = m := by
  have e : opC' m k = 2 := by unfold opC'; rw [if_neg (by simp [h]), if_pos h2]
  exact ⟨e, by unfold opN; rw [if_neg (by rw [e]; decide)], by unfold opM; rw [if_neg (by rw [e]; decide)]⟩
theorem op_ok {m : GM} {k : List UInt8} (h : mayC m k = 0) (h2 : ¬ 2147483648 ≤ glk m k) : opC' m k = 0 ∧ opN m k = glk m k + 1 ∧ opM m k = gput m k (glk m k + 1) := by
  have e : opC' m k = 0 := by unfold opC'; rw [if_neg (by simp [h]), if_neg h2]
  exact ⟨e, by unfold opN; rw [if_pos e], by unfold opM; rw [if_pos e]⟩
/-! ### texts -/
/-- a gate that can be -/
structure GWF (l : GM) : Prop where
  srt : GSrt l
  nm : ∀ p ∈ l, nameB p.1 = true
  ep : ∀ p ∈ l, 1 ≤ p.2 ∧ p.2 ≤ 2147483648
  few : l.length ≤ 20
theorem GWF.nil : GWF [] := ⟨List.Pairwise.nil, by simp, by simp, by simp⟩
end Go.Proofs.YtppkeophochgiaaGreatDoor
/- A set of names kept in a map of bools. -/
namespace Go.Proofs.YtppkeophochgiaaGreatDoor
open Go.RowKit
set_option linter.unusedVariables false

set_option maxRecDepth 100000 in
theorem plainBool_inv {v : Value} {x : Bool} {ps : List MemPlace} (h : plainElem (H := Unit) Tryz.prog 4 v = some (.lit (.bool x), ps)) : v = .bool x := by
  unfold plainElem at h
  rw [Tryz.underlying4] at h
  cases v <;> simp at h
  rw [h.1]
/-- the names whose value is true -/
def FMapIs (w : World) (b n : Nat) (fu : List (List UInt8)) : Prop :=
  ∃ D : DataW Unit, w.ownsMap Tryz.prog 9 (plainElem Tryz.prog 4) b n D ∧
    (∀ k : List UInt8, D.atKey (.string k) (.lit (.bool false)) = .lit (.bool (fu.contains k)))
theorem FMapIs.made (w : World) : FMapIs (w.alloc (.map #[] 0)) w.heap.size 0 [] :=
  ⟨.map [], World.ownsMap_made w _ _ _, fun k => rfl⟩
theorem FMapIs.lt {w : World} {b n : Nat} {fu : List (List UInt8)} (h : FMapIs w b n fu) : b < w.heap.size := by obtain ⟨D, h, _⟩ := h; exact h.lt
theorem FMapIs.isMap {w : World} {b n : Nat} {fu : List (List UInt8)} (h : FMapIs w b n fu) : ∃ es clock, w.heap[b]? = some (.map es clock) := by
  obtain ⟨D, ⟨es, clock, hb, _⟩, _⟩ := h
  exact ⟨es, clock, hb⟩
theorem FMapIs.kept {w w' : World} {b n : Nat} {fu : List (List UInt8)} (h : FMapIs w b n fu) (hb : w'.heap[b]? = w.heap[b]?) : FMapIs w' b n fu := by
  obtain ⟨D, ⟨es, clock, h1, h2⟩, h3⟩ := h
  exact ⟨D, ⟨es, clock, hb.trans h1, h2⟩, h3⟩
theorem FMapIs.mono {w : World} {b n : Nat} {fu : List (List UInt8)} (h : FMapIs w b n fu) {n' : Nat} (hn : n ≤ n') : FMapIs w b n' fu := by
  obtain ⟨D, h1, h2⟩ := h
  exact ⟨D, h1.mono hn, h2⟩
set_option maxRecDepth 100000 in
theorem FMapIs.look {w : World} {b n : Nat} {fu : List (List UInt8)} (h : FMapIs w b n fu) {k : List UInt8} (hk : k.length ≤ maxLen) :
    (Instr.lookup 250 (.map (some b)) (.string (bs k)) false).run Tryz.prog w = .ok (.bool (fu.contains k)) w := by
  obtain ⟨D, h1, h2⟩ := h
  obtain ⟨v, ps, hr, hv⟩ := h1.lookup gkeyed Tryz.underlying250 (z := .bool false) (by kernel_rfl) (zd := .lit (.bool false)) (zp := []) (plainElem_bool Tryz.underlying4 false) (gkey_of hk)
  rw [h2 k] at hv
  rw [plainBool_inv hv] at hr
  exact hr
set_option maxRecDepth 100000 in
theorem FMapIs.store {w : World} {b n : Nat} {fu : List (List UInt8)} (h : FMapIs w b n fu) {k : List UInt8} (hk : k.length ≤ maxLen) (hn : n < maxLen) :
    ∃ w', (Instr.mapUpdate 250 (.map (some b)) (.string (bs k)) (.bool true)).run Tryz.prog w = .ok () w' ∧ FMapIs w' b (n + 1) (k :: fu) ∧ w.mapTurned w' b := by
  obtain ⟨D, h1, h2⟩ := h
  obtain ⟨w', hr, ho, ht⟩ := h1.store gkeyed Tryz.underlying250 hn (gkey_of hk) (plainElem_bool Tryz.underlying4 true)
  refine ⟨w', hr, ⟨_, ho, fun k' => ?_⟩, ht⟩
  by_cases e : k' = k
  · subst e
    rw [Maps.atKey_put_same h1.isMap (gkeyLit k')]
    simp
  · have ne : Lit.string k' ≠ .string k := fun h => e (by injection h)
    rw [Maps.atKey_put_other ne, h2 k']
    simp [e]
end Go.Proofs.YtppkeophochgiaaGreatDoor
