/- Contracts of (*Sender).Push, Kept, Data. -/
import Derived.Test.YtnjkopjbognpiaaDoorWinSnd
namespace Go.Proofs.YtnjkopjbognpiaaDoor
open Go.RowKit
set_option linter.unusedVariables false

theorem kcells_rowc (l : List PK) : kcells l = rowc (fun k => Value.int .i64 k.n) (fun k => Value.string (bs k.d)) l := rfl
theorem md_sub {a b : Int} (h : 0 ≤ a ∧ a < 65536) (h2 : 0 ≤ b ∧ b < 65536) : IntKind.i64.wrap (a - b) = a - b := IntWalk.i64_in _ (by omega)
/-- kept frames have numbers -/
def KOk (l : List PK) : Prop := ∀ k ∈ l, 0 ≤ k.n ∧ k.n < 65536
theorem two_newsK {w : World} {b : Nat} {u0 u1 : Value} {t : TypeId} (h : w.heap[b]? = some (.cells #[u0, u1] t (0, 0))) : ∀ j u', [u0, u1][j]? = some u' → w.cell? ((⟨b, 0, none⟩ : Addr).add j) = some u' := by
  intro j u' hj
  match j, hj with
  | 0, hj => simp at hj; subst hj; simp [World.cell?, h, Addr.add]
  | 1, hj => simp at hj; subst hj; simp [World.cell?, h, Addr.add]
theorem push_cell {w w1 w2 : World} {base sb : Nat} {v : Value} {next : Int} {l : List PK} {o : Obj} (h : SndAt w base sb v next l) (h1 : w1 = w ∨ w1 = w.drew ∨ ∃ n, w1 = w.drewN n) (hg : (w1.alloc o).grownBy w2 v.ownBlock) :
    w2.heap[sb]? = some (.cells #[.int .i64 next, v] 61 (0, 0)) := by
  have hcl := lt_of_block h.cells
  have hsz : w1.heap.size = w.heap.size := by rcases h1 with rfl | rfl | ⟨n, rfl⟩ <;> rfl
  have hh1 : w1.heap[sb]? = w.heap[sb]? := by rcases h1 with rfl | rfl | ⟨n, rfl⟩ <;> rfl
  rw [hg.block sb (by simp; omega) (fun e => h.ne e.symm), (wb_alloc w1 o).block sb (by omega), hh1]
  exact h.cells
theorem snd_cs {w : World} {sb : Nat} {a b : Value} {t : TypeId} (h : w.heap[sb]? = some (.cells #[a, b] t (0, 0))) : w.cell? ⟨sb, 0, none⟩ = some a ∧ w.cell? ⟨sb, 1, none⟩ = some b ∧ w.frozen? ⟨sb, 0, none⟩ = false ∧ w.frozen? ⟨sb, 1, none⟩ = false := by
  refine ⟨?_, ?_, ?_, ?_⟩ <;> simp [World.cell?, World.frozen?, h]
/-- the tail of Push: the frame is kept -/
theorem push_tail {w w1 w2 : World} {base sb : Nat} {v v' : Value} {next : Int} {l : List PK} {s : List UInt8} {o : Obj} (h : SndAt w base sb v next l) (h1 : w1 = w ∨ w1 = w.drew ∨ ∃ n, w1 = w.drewN n)
    (hown : w2.ownsRow base 68 2 v' (l.length + 1) (kcells l ++ [.int .i64 next, .string (bs s)])) (hg : (w1.alloc o).grownBy w2 v.ownBlock) (ha : v'.ownBlock = v.ownBlock ∨ v'.ownBlock = some (w1.alloc o).heap.size) :
    SndTo w ((w2.setCell ⟨sb, 1, none⟩ v').setCell ⟨sb, 0, none⟩ (.int .i64 (md (next + 1)))) base sb v (pushX 0 next) (pushL 0 next l s) := by
  have hcl := lt_of_block h.cells
  have hsz : w1.heap.size = w.heap.size := by rcases h1 with rfl | rfl | ⟨n, rfl⟩ <;> rfl
  have hc1 : Chg w w1 (SFoot sb v) := by rcases h1 with rfl | rfl | ⟨n, rfl⟩ <;> exact ⟨rfl, rfl, rfl, Nat.le_refl _, fun _ _ _ => rfl⟩
  have hca : Chg w (w1.alloc o) (SFoot sb v) := hc1.alloc o
  have hg' : Chg (w1.alloc o) w2 (fun x => v.ownBlock = some x) := ⟨hg.os, hg.tape, hg.output, hg.size, fun k hk hn => hg.block k hk (fun e => hn e.symm)⟩
  have c2 : Chg w w2 (SFoot sb v) := hca.trans hg' (fun x _ hx => .inr hx)
  have hne' : v'.ownBlock ≠ some sb := by
    rcases ha with ha | ha
    · rw [ha]; exact h.ne
    · rw [ha]; intro e; simp at e; omega
  have hcell := push_cell h h1 hg
  have x1 := set_at (k := 1) (u := v') hcell
  have x2 := set_at (k := 0) (u := .int .i64 (md (next + 1))) x1
  have cc : Chg w ((w2.setCell ⟨sb, 1, none⟩ v').setCell ⟨sb, 0, none⟩ (.int .i64 (md (next + 1)))) (SFoot sb v) := (c2.set ⟨sb, 1, none⟩ (.inl (.inl rfl)) v').set ⟨sb, 0, none⟩ (.inl (.inl rfl)) _
  have co : Chg w2 ((w2.setCell ⟨sb, 1, none⟩ v').setCell ⟨sb, 0, none⟩ (.int .i64 (md (next + 1)))) (fun x => x = sb) := ((Chg.refl w2 (fun x => x = sb)).set ⟨sb, 1, none⟩ (.inl rfl) v').set ⟨sb, 0, none⟩ (.inl rfl) _
  refine ⟨v', ⟨?_, ?_, h.lo, hne', md_lt _⟩, cc, fun x hx => ?_⟩
  · simpa [pushX] using x2
  · have := own_other hown co (fun x hx e => hne' (by rw [hx, e]))
    simp only [pushL, if_pos, List.length_append, List.length_singleton, kcells_append, kcells_one]
    exact this
  · rcases ha with ha | ha
    · rw [ha] at hx; exact .inl hx
    · rw [ha] at hx; right; simp at hx; omega

set_option maxRecDepth 100000 in
set_option maxHeartbeats 6400000 in
theorem push_any (E : Nat → Addr) (base sb : Nat) (v : Value) (next : Int) (l : List PK) (s : List UInt8) (w : World) (h : SndAt w base sb v next l) (hk : KOk l) (hs : s.length ≤ maxLen) (hB : Has E w 2) (hF : Has E w 8) (hlen : l.length ≤ 1000000) (hbase : base ≤ w.heap.size) :
    Calls Tryd.prog 10 #[.pointer (some ⟨sb, 0, none⟩), .string (bs s)] w fun e w' => e = .returned (.tuple #[.int .i64 (pushN (pushC next l s) next), ev E (pushC next l s)]) ∧ SndTo w w' base sb v (pushX (pushC next l s) next) (pushL (pushC next l s) next l s) := by
  obtain ⟨⟨c0, c1⟩, cf⟩ := h.cs
  have f0 := cf 0
  have f1 := cf 1
  have cB : w.cell? ⟨0, 0, none⟩ = some (errv (E 2)) := hB
  have cF : w.cell? ⟨1, 0, none⟩ = some (errv (E 8)) := hF
  unfold errv at cB cF
  have hsz : (bs s).size = s.length := bs_size s
  have HH := Lib.hid h
  have hn := h.next
  unfold maxLen at hs
  clear hB hF cf
  by_cases hbd : 20000 < s.length
  · rw [pushC_bound hbd]
    have hbI : (20000 : Int) < (bs s).size := by omega
    generalize bs s = S at *
    have HW := Lib.hid (SndTo.same HH.out ((Drew.drew w).below _))
    clear h hsz
    go_enter Tryd.func10, Tryd.ntmps10
    go_wp2_with fail
    go_quiet (fail)
    go_wp2_with fail
    go_ret2
    exact ⟨by rw [ev_pos E (by decide)]; rfl, by first | exact HW.out | exact SndTo.same HH.out ((Drew.drewN _ _).below _)⟩
  · have hbI : ¬ (20000 : Int) < (bs s).size := by omega
    obtain ⟨i0, hi, hz0, hz1, hz2⟩ := info_parts infoKept
    have HM := Lib.hid (fun w' => wmod_any (next + 1) w')
    cases l with
    | nil =>
      rw [pushC_nil hbd]
      have hv : ∃ a c, v = .slice a 0 c := by
        obtain ⟨_, h2⟩ := h.own
        rcases h2 with ⟨h2, _⟩ | ⟨g, cap, cur, h2, _⟩
        · exact ⟨none, 0, h2⟩
        · exact ⟨_, cap, h2⟩
      obtain ⟨a, c, rfl⟩ := hv
      have OWN := Lib.hid h.own
      have HN1 : Hid (([] : List PK).length + 1 ≤ maxLen) := by show _ ≤ _; unfold maxLen; simp
      have HN2 : Hid ((([] : List PK).length + 1) * 24 ≤ 140737488355328) := by show _ ≤ _; simp
      have HN3 := Lib.hid (fun (n : Nat) (o : Obj) => show base ≤ ((w.drewN n).alloc o).heap.size by simp; omega)
      generalize hS : bs s = S at *
      clear h hsz hbd
      go_enter Tryd.func10, Tryd.ntmps10
      go_wp2_with fail
      go_quiet (fail)
      go_wp2_with (at_builtin; refine wpList_append_own_at _ rfl _ _ 59 rfl base 68 i0 _ 2 24 Tryd.underlying59 hi hz0 hz1 hz2 rfl (by decide) _ _ _ rfl (OWN.out.alloc _) ⟨w.heap.size, 0, none⟩ 1 1 [.int .i64 next, .string S] rfl rfl (two_newsK (heap_alloc_new _ _)) (fun u hu => by simp at hu; rcases hu with rfl | rfl <;> rfl) HN1.out HN2.out (HN3.out _ _) ?_; intro v' w5 hown5 hgrow _ hat; obtain ⟨va, vc, rfl⟩ := owns_slice hown5; have hcc := push_cell HH.out (.inr (.inr ⟨_, rfl⟩)) hgrow; have HG := Lib.hid hgrow; have HOW := Lib.hid hown5; have HAT := Lib.hid hat; obtain ⟨e0, e1, e2, e3⟩ := snd_cs hcc; clear hgrow hown5 hat hcc)
      refine (HM.out _).mono ?_
      rintro e w6 ⟨rfl, rfl⟩
      go_wp2_with fail
      go_ret2
      rw [ev_zero]
      exact ⟨rfl, push_tail HH.out (.inr (.inr ⟨_, rfl⟩)) (by rw [hS]; exact HOW.out) HG.out HAT.out⟩
    | cons o l =>
      obtain ⟨a, cap, hv, _, _, _, _, hcell, _⟩ := owns_open h.own (by simp)
      subst hv
      have d0 := hcell 0 (.int .i64 o.n) (by rw [kcells_cons]; rfl)
      have ho := hk o (by simp)
      have hw := md_sub hn ho
      have WM := Lib.hid (fun w' => wmod_any (next - o.n) w')
      have h0 : ((o :: l).length : Int) = (l.length : Int) + 1 := by simp
      have h00 : 0 < (o :: l).length := by simp
      have OWN := Lib.hid h.own
      by_cases hfull : 32 ≤ md (next - o.n)
      · rw [pushC_full hbd hfull]
        have HW := Lib.hid (fun (w' : World) (hd : Drew w w') => SndTo.same HH.out (hd.below _))
        generalize bs s = S at *
        generalize md (next - o.n) = z at *
        generalize (o :: l).length = len at *
        clear h hsz hbd h0 hcell
        go_enter Tryd.func10, Tryd.ntmps10
        go_wp2_with fail
        go_quiet ((go_at_call 27; first | exact quiet_left (WM.out _) | exact quiet_add_left (WM.out _)))
        go_wp2_with fail
        go_quiet (fail)
        go_wp2_with fail
        go_ret2
        exact ⟨by rw [ev_pos E (by decide)]; rfl, HW.out _ (by first | exact Drew.drewN _ _ | exact (Drew.drewN _ _).trans (Drew.drewN _ _) | exact Drew.drew _)⟩
      · rw [pushC_ok hbd hfull]
        have hfull' : md (next - o.n) < 32 := by omega
        generalize md (next - o.n) = z at *
        generalize hll : (o :: l) = L at *
        have HN1 : Hid (L.length + 1 ≤ maxLen) := by show _ ≤ _; unfold maxLen; omega
        have HN2 : Hid ((L.length + 1) * 24 ≤ 140737488355328) := by show _ ≤ _; omega
        have HN3 := Lib.hid (fun (n : Nat) (o : Obj) => show base ≤ ((w.drewN n).alloc o).heap.size by simp; omega)
        generalize hS : bs s = S at *
        clear h hsz hbd h0 hcell hll
        go_enter Tryd.func10, Tryd.ntmps10
        go_wp2_with fail
        go_quiet ((go_at_call 27; first | exact quiet_left (WM.out _) | exact quiet_add_left (WM.out _)))
        go_wp2_with (at_builtin; refine wpList_append_own_at _ rfl _ _ 59 rfl base 68 i0 _ 2 24 Tryd.underlying59 hi hz0 hz1 hz2 rfl (by decide) _ _ _ rfl (OWN.out.alloc _) ⟨w.heap.size, 0, none⟩ 1 1 [.int .i64 next, .string S] rfl rfl (two_newsK (heap_alloc_new _ _)) (fun u hu => by simp at hu; rcases hu with rfl | rfl <;> rfl) HN1.out HN2.out (HN3.out _ _) ?_; intro v' w5 hown5 hgrow _ hat; obtain ⟨va, vc, rfl⟩ := owns_slice hown5; have hcc := push_cell HH.out (.inr (.inr ⟨_, rfl⟩)) hgrow; have HG := Lib.hid hgrow; have HOW := Lib.hid hown5; have HAT := Lib.hid hat; obtain ⟨e0, e1, e2, e3⟩ := snd_cs hcc; clear hgrow hown5 hat hcc)
        refine (HM.out _).mono ?_
        rintro e w6 ⟨rfl, rfl⟩
        go_wp2_with fail
        go_ret2
        rw [ev_zero]
        exact ⟨rfl, push_tail HH.out (.inr (.inr ⟨_, rfl⟩)) (by rw [hS]; exact HOW.out) HG.out HAT.out⟩
end Go.Proofs.YtnjkopjbognpiaaDoor
