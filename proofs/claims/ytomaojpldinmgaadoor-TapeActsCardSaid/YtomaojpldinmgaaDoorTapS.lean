/- A disk among what a call owns: the contracts over one word (TpS), each with its footprint. -/
import Derived.Test.YtomaojpldinmgaaDoorTapRec
import Derived.Test.YtomaojpldinmgaaDoorTapApp
import Derived.Test.YtomaojpldinmgaaDoorSameTexts
namespace Go.Proofs.YtomaojpldinmgaaDoor
open Go.RowKit
set_option linter.unusedVariables false

def LaterT (w w' : World) (F F' : Nat → Prop) : Prop := Chg w w' F ∧ ∀ x, F' x → F x ∨ w.heap.size ≤ x
theorem LaterT.below {w w' : World} (h : Below w.heap.size w w') (F : Nat → Prop) : LaterT w w' F F := ⟨Chg.of_below h F, fun _ h => .inl h⟩
theorem LaterT.trans {a b c : World} {F G H : Nat → Prop} (h : LaterT a b F G) (k : LaterT b c G H) : LaterT a c F H :=
  ⟨h.1.trans k.1 (fun x hx hg => (h.2 x hg).elim id (fun h2 => by omega)), fun x hx => (k.2 x hx).elim (h.2 x) (fun h2 => .inr (Nat.le_trans h.1.size h2))⟩
theorem own_other' {w w' : World} {base : Nat} {e : TypeId} {size : Nat} {v : Value} {n : Nat} {xs : List Value} {S : Nat → Prop} (h : w.ownsRow base e size v n xs) (hc : Chg w w' S) (hs : ∀ x, v.ownBlock = some x → ¬ S x) : w'.ownsRow base e size v n xs := by
  obtain ⟨h1, h2⟩ := h
  refine ⟨h1, ?_⟩
  rcases h2 with h2 | ⟨g, cap, cur, hv, hg, hh, h3⟩
  · exact .inl h2
  · subst hv
    exact .inr ⟨g, cap, cur, rfl, hg, (hc.block g (lt_of_block hh) (hs g rfl)).trans hh, h3⟩
/-- a slice elsewhere stays -/
theorem LaterT.own {w w' : World} {F F' : Nat → Prop} {base : Nat} {e : TypeId} {size : Nat} {v : Value} {n : Nat} {xs : List Value} (hl : LaterT w w' F F') (ho : w.ownsRow base e size v n xs) (hn : ∀ x, v.ownBlock = some x → ¬ F x) : w'.ownsRow base e size v n xs ∧ ∀ x, v.ownBlock = some x → ¬ F' x := by
  refine ⟨own_other' ho hl.1 hn, fun x hx hf => ?_⟩
  rcases hl.2 x hf with h | h
  · exact hn x hx h
  · have := (ho.lt x hx).2; omega
structure TpS (w0 w : World) (F : Nat → Prop) (db : Nat) (d : TP) : Prop where
  dk : ∃ v, DiskAt w w0.heap.size db v d ∧ ∀ x, v.ownBlock = some x → F x
  fd : F db
  lo : ∀ x, F x → w0.heap.size ≤ x ∧ x < w.heap.size
  bel : Below w0.heap.size w0 w
theorem BufIs.mono {w : World} {base base' : Nat} {e : TypeId} {v : Value} {xs : List Value} (h : BufIs w base e v xs) (hb : base' ≤ base) : BufIs w base' e v xs := by
  rcases h with h | ⟨g, cap, cur, fr, hv, h1, h2⟩
  · exact .inl h
  · exact .inr ⟨g, cap, cur, fr, hv, by omega, h2⟩
theorem DiskAt.mono {w : World} {base base' db : Nat} {v : Value} {d : TP} (h : DiskAt w base db v d) (hb : base' ≤ base) : DiskAt w base' db v d := ⟨h.cells, h.buf.mono hb, h.ne, by have := h.lo; omega, h.cut⟩
section
variable {E : Nat → Addr} {w0 w w' : World} {F : Nat → Prop} {db : Nat} {d : TP}
theorem TpS.kept {S : Nat → Prop} (h : TpS w0 w F db d) (hc : Chg w w' S) (hS : ∀ x, F x → ¬ S x) (hb : Below w0.heap.size w0 w') : TpS w0 w' F db d := by
  obtain ⟨v, h1, h2⟩ := h.dk
  exact ⟨⟨v, h1.kept hc (hS db h.fd) (fun x hx => hS x (h2 x hx)), h2⟩, h.fd, fun x hx => ⟨(h.lo x hx).1, Nat.lt_of_lt_of_le (h.lo x hx).2 hc.size⟩, hb⟩
theorem TpS.below (h : TpS w0 w F db d) (hb : Below w.heap.size w w') : TpS w0 w' F db d :=
  h.kept (Chg.of_below hb (fun _ => False)) (fun _ _ h => h) (below_trans' h.bel hb)
theorem TpS.to {v : Value} {d' : TP} (h : TpS w0 w F db d) (h1 : DiskAt w w0.heap.size db v d) (h2 : ∀ x, v.ownBlock = some x → F x) (ht : DiskTo w w' w0.heap.size db v d') : ∃ F', TpS w0 w' F' db d' ∧ LaterT w w' F F' := by
  obtain ⟨v', k1, kc, ka⟩ := ht
  have hcF : Chg w w' F := kc.more (fun x _ hx => by rcases hx with rfl | hx; exact h.fd; exact h2 x hx)
  refine ⟨fun x => F x ∨ v'.ownBlock = some x, ⟨⟨v', k1, fun x hx => .inr hx⟩, .inl h.fd, fun x hx => ?_, hcF.below h.bel (fun x hx => (h.lo x hx).1)⟩, hcF, fun x hx => ?_⟩
  · rcases hx with hx | hx
    · exact ⟨(h.lo x hx).1, Nat.lt_of_lt_of_le (h.lo x hx).2 hcF.size⟩
    · exact k1.buf.at hx
  · rcases hx with hx | hx
    · exact .inl hx
    · exact (ka x hx).imp (h2 x) id
/-- what a call over tapes is given -/
structure TEnv (E : Nat → Addr) (w : World) : Prop where
  lib : LibW E w
  e2 : Has E w 2
  e8 : Has E w 8
  e12 : Has E w 12
theorem TEnv.below (h : TEnv E w) (hb : Below w.heap.size w w') : TEnv E w' := ⟨h.lib.below hb, h.e2.below hb, h.e8.below hb, h.e12.below hb⟩
theorem TEnv.g12 (h : TEnv E w) : gOf 12 < w.heap.size := World.block_lt_of_cell? w _ h.e12
theorem tnew_s (s : ByteArray) (hb : Below w0.heap.size w0 w) (hs : s.size ≤ 1048576) :
    Calls Tryd.prog 6 #[.string s] w fun e w' => ∃ db, e = .returned (.tuple #[.pointer (some ⟨db, 0, none⟩), .nilIface]) ∧ (∃ F, TpS w0 w' F db ⟨s.data.toList, false, -1⟩ ∧ ∀ x, F x → w.heap.size ≤ x) ∧ Below w.heap.size w w' := by
  refine (newdisk_any s w hs).mono ?_
  rintro e w' ⟨db, rfl, ⟨v, h⟩, b⟩
  have hb' := below_trans' hb b
  refine ⟨db, rfl, ⟨fun x => w.heap.size ≤ x ∧ x < w'.heap.size, ⟨⟨v, h.mono hb.size, fun x hx => h.buf.at hx⟩, ⟨h.lo, h.lt⟩, fun x hx => ⟨Nat.le_trans hb.size hx.1, hx.2⟩, hb'⟩, fun x hx => hx.1⟩, b⟩
theorem tapp_s (s : List UInt8) (h : TpS w0 w F db d) (hE : TEnv E w0) (hs : s.length ≤ 1000000) (hb : d.b.length ≤ 100000000) :
    Calls Tryd.prog 8 #[.pointer (some ⟨db, 0, none⟩), .string (bs s)] w fun e w' => e = .returned (ev E (apC d s)) ∧ ∃ F', TpS w0 w' F' db (apT d s) ∧ LaterT w w' F F' := by
  obtain ⟨v, h1, h2⟩ := h.dk
  have hE' := hE.below h.bel
  refine (tapp_any E w0.heap.size db v d s w h1 hE'.lib hs hb hE'.e2 hE'.e8 hE'.e12 hE.g12 h.bel.size).mono ?_
  rintro e w' ⟨he, ht⟩
  exact ⟨he, h.to h1 h2 ht⟩
theorem tcut_s (n : Int) (h : TpS w0 w F db d) (hE : TEnv E w0) (hn : n ≤ 9223372036854775807) :
    Calls Tryd.prog 10 #[.pointer (some ⟨db, 0, none⟩), .int .i64 n] w fun e w' => e = .returned (ev E (ctC d n)) ∧ ∃ F', TpS w0 w' F' db (ctT d n) ∧ LaterT w w' F F' := by
  obtain ⟨v, h1, h2⟩ := h.dk
  have hE' := hE.below h.bel
  refine (dcut_any E w0.heap.size db v d n w h1 hn hE'.e2 hE'.e12).mono ?_
  rintro e w' ⟨he, ht⟩
  exact ⟨he, h.to h1 h2 ht⟩
theorem ton_s (h : TpS w0 w F db d) :
    Calls Tryd.prog 12 #[.pointer (some ⟨db, 0, none⟩)] w fun e w' => e = .returned (.tuple #[]) ∧ ∃ F', TpS w0 w' F' db (onT d) ∧ LaterT w w' F F' := by
  obtain ⟨v, h1, h2⟩ := h.dk
  refine (don_any w0.heap.size db v d w h1).mono ?_
  rintro e w' ⟨he, ht⟩
  exact ⟨he, h.to h1 h2 ht⟩
theorem tpower_s (h : TpS w0 w F db d) :
    Calls Tryd.prog 17 #[.pointer (some ⟨db, 0, none⟩)] w fun e w' => e = .returned (.bool (!d.off)) ∧ w' = w := by
  obtain ⟨v, h1, h2⟩ := h.dk
  exact dpower_any w0.heap.size db v d w h1
theorem tbytes_s (h : TpS w0 w F db d) :
    Calls Tryd.prog 16 #[.pointer (some ⟨db, 0, none⟩)] w fun e w' => e = .returned (.string (bs d.b)) ∧ w' = w := by
  obtain ⟨v, h1, h2⟩ := h.dk
  exact dbytes_any w0.heap.size db v d w h1
theorem trec_s (h : TpS w0 w F db d) (hE : TEnv E w0) (hb : d.b.length ≤ 100000000) :
    Calls Tryd.prog 13 #[.pointer (some ⟨db, 0, none⟩)] w fun e w' => ∃ r, e = .returned (.tuple #[r, .nilIface]) ∧ w'.ownsRow w.heap.size 9 1 r (readL d.b).1.length (strV (readL d.b).1) ∧ ∃ F', TpS w0 w' F' db (rcT d) ∧ LaterT w w' F F' := by
  obtain ⟨v, h1, h2⟩ := h.dk
  refine (trec_any E w0.heap.size db v d w h1 (fun w' hc => ?_) hb).mono ?_
  · refine hE.lib.below (hc.below h.bel (fun x hx => ?_))
    rcases hx with rfl | hx
    · exact h1.lo
    · exact (h1.buf.at hx).1
  · rintro e w' ⟨r, he, ho, ht⟩
    exact ⟨r, he, ho, h.to h1 h2 ht⟩
end
end Go.Proofs.YtomaojpldinmgaaDoor
