/- Texts of one proof, one behind the other: ScrList, ScrPlan, BasText. -/
import Derived.Test.YtppkeophochgiaaGreatDoorB45
import Derived.Test.YtppkeophochgiaaGreatDoorB46
import Derived.Test.YtppkeophochgiaaGreatDoorB15
import Derived.Test.YtppkeophochgiaaGreatDoorB32
import Derived.Test.YtppkeophochgiaaGreatDoorB11
import Derived.Test.YtppkeophochgiaaGreatDoorB10
import Derived.Test.YtppkeophochgiaaGreatDoorB09
import Derived.Test.YtppkeophochgiaaGreatDoorB01
/- A player's command: list. -/
namespace Go.Proofs.YtppkeophochgiaaGreatDoor
open Go.RowKit
set_option linter.unusedVariables false
theorem glue_len (m : Nat) : ∀ l : List (List UInt8), (∀ x ∈ l, x.length ≤ m) → (glueL l).length ≤ (m + 1) * l.length
  | [], _ => by simp [glueL]
  | [a], h => by have := h a (by simp); simp only [glueL, List.length_singleton]; omega
  | a :: b :: l, h => by
    have h1 := h a (by simp)
    have h2 := glue_len m (b :: l) (fun x hx => h x (List.mem_cons_of_mem _ hx))
    show (a ++ 32 :: glueL (b :: l)).length ≤ _
    rw [List.length_append, List.length_cons, List.length_cons (a := a), Nat.mul_add]
    omega
theorem line_len {x : PL} (h1 : x.n.length ≤ 12) (h2 : 0 ≤ x.N ∧ x.N ≤ 4000) (h3 : x.S < 4294967296) : (SP.lineT x).length ≤ 60 := by
  unfold SP.lineT
  have a := dec_len_le (n := x.N.toNat) (k := 9) (by omega)
  have b := dec_len_le (n := x.S) (k := 9) (by omega)
  simp only [List.length_append, List.length_cons]
  omega
theorem line_txt (x : PL) : SP.lineT x = x.n ++ [58] ++ Lib.decDigits x.N.toNat ++ [58] ++ Lib.decDigits x.S := by unfold SP.lineT; simp
theorem lines_glue {l : List PF} (h : FWF l) (k : Nat) : (glueL ((l.take k).map fun f => SP.lineT f.line)).length ≤ 1300 := by
  have h1 := glue_len 60 ((l.take k).map fun f => SP.lineT f.line) (fun x hx => by
    obtain ⟨f, hf, rfl⟩ := List.mem_map.1 hx
    obtain ⟨a, b⟩ := h.each f (List.mem_of_mem_take hf)
    exact line_len (((nameB_iff _).1 a).2.1) ⟨by show (0 : Int) ≤ f.d.length; omega, by show (f.d.length : Int) ≤ 4000; omega⟩ (csum_lt _))
  have h2 := h.few
  rw [List.length_map, List.length_take] at h1
  omega
section
variable {Q : Guest} {E : Nat → Addr} {w0 w w' : World} {pb k : Nat} {A : PlA} {s : SP}
attribute [local irreducible] SP.lineT glueL joinL
set_option maxRecDepth 100000 in
set_option maxHeartbeats 12800000 in
theorem plist_any (a : List UInt8) (v : Value) (h : PlAt Q w0 w pb A s k) (hI : SInv s) (hE : SEnv E w0) (hv : SliceIs w v 1 [.string (bs a)]) :
    Calls Tryz.prog 75 #[.pointer (some ⟨pb, 0, none⟩), v] w (Ans Q E w0 pb k (s.list a)) := by
  obtain ⟨s0, m0, c0, rfl, hm0, hm1, hm2, g1⟩ := hv.get
  obtain ⟨ad, rfl, d0⟩ := g1 0 _ rfl
  rw [addr0] at d0
  have hm0 : m0 = 1 := by simpa using hm0.symm
  subst hm0
  have HX := Lib.hid h
  have SD := Lib.hid (fun w' => pside_any a pb w')
  have c1 : w.cell? ⟨1, 0, none⟩ = some (errv (E 1)) := hE.err.e1.below h.bel
  cases hs : sideW a with
  | none =>
    have hq : s.list a = (s, [], 1) := by unfold SP.list; rw [hs]
    rw [hs] at SD
    rw [hq]
    clear h hs hq hv g1 hI hE
    go_enter Tryz.func75, Tryz.ntmps75
    go_wp2_with fail
    refine (SD.out _).mono ?_
    rintro e w1 ⟨rfl, rfl⟩
    simp only [Option.map_none]
    go_wp2_with fail
    go_quiet (fail)
    go_wp2_with fail
    go_ret2
    exact ⟨_, A, k, by rw [bs_nil]; rfl, told_err E _ (by simp), HX.out.below (below_drewN (Below.refl _ _) nq), by omega⟩
  | some b =>
    have hq : s.list a = (s, joinL ((s.files b).map fun f => SP.lineT f.line), 0) := by unfold SP.list; rw [hs]
    rw [hs] at SD
    rw [hq]
    obtain ⟨F1, F2, F3⟩ := h.atF b
    have hW := (hI.files b).wf
    have HE := hE.err.below h.bel
    have LS := Lib.hid (fllist_yes E (s.files b) (A.fv b) w (SliceIs.ownedK F3) hW.okx HE.e2 HE.e5 HE.e8 HE.e9 hW)
    have HLB := Lib.hid (fun (w' : World) (b : Below w.heap.size w w') => hE.lib.below (below_trans' h.bel b))
    have HFEW := hW.few
    have HEA := Lib.hid hW.each
    have GL := Lib.hid (fun k => lines_glue hW k)
    obtain ⟨g, cap, hlv⟩ := owns_slice F3
    obtain ⟨i0, hi, hz0, hz1, hz2⟩ := info_parts infoStr
    generalize A.fv b = fv at *
    subst hlv
    generalize s.files b = L at *
    clear h hs hq hv g1 hI hE F3 F2 HE hW c1
    go_enter Tryz.func75, Tryz.ntmps75
    go_wp2_with fail
    refine (SD.out _).mono ?_
    rintro e w1 ⟨rfl, rfl⟩
    simp only [Option.map_some]
    go_wp2_with fail
    refine LS.out.mono ?_
    rintro e w2 ⟨r, rfl, hr, b2⟩
    have B2 := Lib.hid b2
    have HR := Lib.hid hr
    obtain ⟨ra, rc, rfl⟩ := owns_slice hr
    clear LS F1 b2 hr
    go_wp2_with fail
    go_loopw [9, 11, 29] (fun o _ i wr => ∃ j : Nat, i = .int .i64 j ∧ j ≤ L.length ∧ wr.ownsRow w2.heap.size 9 1 o j (strV ((L.take j).map fun f => SP.lineT f.line)) ∧ Below w2.heap.size w2 wr) (fun _ _ i _ => L.length - (intOf i).toNat)
    case atStart => exact ⟨0, rfl, by omega, World.ownsRow_nil _ _ _ _, Below.refl _ _⟩
    case round =>
      obtain ⟨j, rfl, hj, hown, bel⟩ := hrel
      by_cases hlt : j < L.length
      · have hltI : (j : Int) < L.length := by omega
        obtain ⟨s0', n0', c0', e1, _, _, _, g1⟩ := ((SliceIs.ownedK HR.out).below bel).get
        cases e1
        have hlt' : j < (L.map PF.line).length := by rw [List.length_map]; exact hlt
        obtain ⟨g2, g3, g4⟩ := lcells_get (L.map PF.line) j hlt'
        rw [List.getElem_map] at g2 g3 g4
        obtain ⟨ad, rfl, d0⟩ := g1 _ _ g2
        obtain ⟨a', e', d1⟩ := g1 _ _ g3
        cases e'
        obtain ⟨a', e', d2⟩ := g1 _ _ g4
        cases e'
        clear g1 g2 g3 g4
        have NX := Lib.hid (show strV ((L.take (j + 1)).map fun f => SP.lineT f.line) = strV ((L.take j).map fun f => SP.lineT f.line) ++ [.string (bs (SP.lineT L[j].line))] by
          rw [List.take_succ_eq_append_getElem hlt, List.map_append]; exact strV_snoc _ _)
        obtain ⟨p1, p2⟩ := HEA.out L[j] (List.getElem_mem _)
        have p1 := ((nameB_iff _).1 p1).2.1
        have hS := csum_lt (L[j]).d
        have ES := Lib.hid (line_txt (L[j]).line)
        have hN0 : (L[j]).line.N = ((L[j]).d.length : Nat) := rfl
        have hn0 : (L[j]).line.n = (L[j]).n := rfl
        have hS0 : (L[j]).line.S = csum (L[j]).d := rfl
        rw [hN0, hn0, hS0] at ES
        rw [hn0] at d0
        rw [hN0] at d1
        rw [hS0] at d2
        rw [Int.toNat_natCast] at ES
        have KK := Lib.hid (show j + 1 ≤ L.length by omega)
        have x1 : (0 : Int) ≤ j := by omega
        have x2 : (j : Int).toNat = j := by omega
        generalize SP.lineT (L[j]).line = T at *
        generalize csum (L[j]).d = S at *
        generalize (L[j]).d.length = N at *
        generalize (L[j]).n = nm at *
        have d1 := cell_at d1
        have d2 := cell_at d2
        have HIT := Lib.hid (fun (w' : World) (b : Below w.heap.size w w') => itoa_any E N w' (HLB.out _ b) (by omega))
        have HFU := Lib.hid (fun (w' : World) (b : Below w.heap.size w w') => fmtuint_any E S w' (HLB.out _ b) (by omega))
        have q1 : (Lib.decDigits N).length ≤ 10 := dec_len_le (k := 9) (by omega)
        have q2 : (Lib.decDigits S).length ≤ 10 := dec_len_le (k := 9) (by omega)
        generalize Lib.decDigits N = dN at *
        generalize Lib.decDigits S = dS at *
        obtain ⟨Y1, hY1⟩ : ∃ Y, Y = nm ++ [58] := ⟨_, rfl⟩
        obtain ⟨Y2, hY2⟩ : ∃ Y, Y = Y1 ++ dN := ⟨_, rfl⟩
        obtain ⟨Y3, hY3⟩ : ∃ Y, Y = Y2 ++ [58] := ⟨_, rfl⟩
        have hA1 : bs nm ++ ⟨#[58]⟩ = bs Y1 := by rw [col58, hY1]; exact bs_add nm [58]
        have hA2 : bs Y1 ++ bs dN = bs Y2 := by rw [hY2]; exact bs_add _ _
        have hA3 : bs Y2 ++ ⟨#[58]⟩ = bs Y3 := by rw [col58, hY3]; exact bs_add Y2 [58]
        have hA4 : bs Y3 ++ bs dS = bs T := by rw [ES.out, hY3, hY2, hY1]; exact (bs_add _ _).trans (by simp)
        have l1 : Y1.length ≤ 13 := by rw [hY1, List.length_append]; simp; omega
        have l2 : Y2.length ≤ 23 := by rw [hY2, List.length_append]; omega
        have l3 : Y3.length ≤ 24 := by rw [hY3, List.length_append]; simp; omega
        have hc1 : ¬ 9223372036854775807 < nm.length + 1 := by omega
        have hc2 : ¬ 9223372036854775807 < Y1.length + dN.length := by omega
        have hc3 : ¬ 9223372036854775807 < Y2.length + 1 := by omega
        have hc4 : ¬ 9223372036854775807 < Y3.length + dS.length := by omega
        have HN1 : Hid (j + 1 ≤ maxLen) := by show _ ≤ _; unfold maxLen; omega
        have HN2 : Hid ((j + 1) * 16 ≤ 140737488355328) := by show _ ≤ _; omega
        have s1 : (0 : Int) ≤ (S : Int) := by omega
        have s2 : (S : Int) ≤ 4294967295 := by omega
        have HO := Lib.hid hown
        have BW := Lib.hid bel
        obtain ⟨va, vc, rfl⟩ := owns_slice hown
        have BA := Lib.hid (bel.alloc bel.size (.cells #[.string (bs nm), .int .i64 (N : Nat), .int .u32 (S : Nat)] 179))
        have HOA := Lib.hid (HO.out.alloc (.cells #[.string (bs nm), .int .i64 (N : Nat), .int .u32 (S : Nat)] 179))
        have OB : Hid (∀ x, (Value.slice va j vc).ownBlock = some x → w2.heap.size ≤ x ∧ x < wr.heap.size) := Lib.hid fun x hx => HO.out.lt x hx
        clear hown bel hY1 hY2 hY3 ES l1 l2 l3 q1 q2 hN0 hn0 hS0
        go_wp2_with fail
        have q0 : (wr.alloc (.cells #[.string (bs nm), .int .i64 (N : Nat), .int .u32 (S : Nat)] 179)).cell? ⟨wr.heap.size, 0, none⟩ = some (.string (bs nm)) := by simp
        have q1 : (wr.alloc (.cells #[.string (bs nm), .int .i64 (N : Nat), .int .u32 (S : Nat)] 179)).cell? ⟨wr.heap.size, 1, none⟩ = some (.int .i64 (N : Nat)) := by simp
        have q2 : (wr.alloc (.cells #[.string (bs nm), .int .i64 (N : Nat), .int .u32 (S : Nat)] 179)).cell? ⟨wr.heap.size, 2, none⟩ = some (.int .u32 (S : Nat)) := by simp
        have hws : wr.heap.size < (wr.alloc (.cells #[.string (bs nm), .int .i64 (N : Nat), .int .u32 (S : Nat)] 179)).heap.size := by simp
        generalize wr.alloc (.cells #[.string (bs nm), .int .i64 (N : Nat), .int .u32 (S : Nat)] 179) = W0 at *
        generalize wr.heap.size = wb at *
        have BD := Lib.hid (Below.drew (Below.refl W0.heap.size W0))
        have BAw := Lib.hid (below_trans' B2.out BA.out)
        have DD := Lib.hid (fun (X : World) (b : Below W0.heap.size W0 X) => (show X.cell? ⟨wb, 0, none⟩ = some (.string (bs nm)) ∧ X.cell? ⟨wb, 1, none⟩ = some (.int .i64 (N : Nat)) ∧ X.cell? ⟨wb, 2, none⟩ = some (.int .u32 (S : Nat)) from ⟨(b.cell hws).trans q0, (b.cell hws).trans q1, (b.cell hws).trans q2⟩))
        have S0 := And.intro q0 (And.intro q1 q2)
        have S1 := DD.out _ BD.out
        have IT2 := Lib.hid (fun (X : World) (b : Below W0.heap.size W0 X) => HIT.out X (below_trans' BAw.out b))
        have FU2 := Lib.hid (fun (X : World) (b : Below W0.heap.size W0 X) => HFU.out X (below_trans' BAw.out b))
        have BG := Lib.hid (fun (X : World) (o : Obj) (w5 : World) (b : Below W0.heap.size W0 X) (g : (X.alloc o).grownBy w5 (Value.slice va j vc).ownBlock) => show Below w2.heap.size w2 w5 from ((below_trans' BA.out b).alloc (below_trans' BA.out b).size o).grown g (by have := (below_trans' BA.out b).size; simp; omega) (fun k hk => (OB.out k hk).1))
        have NB := Lib.hid (fun (X : World) (o : Obj) (b : Below W0.heap.size W0 X) => show w2.heap.size ≤ (X.alloc o).heap.size by have := (below_trans' BA.out b).size; simp; omega)
        have KG := Lib.hid (fun (X : World) (o : Obj) (w5 : World) (b : Below W0.heap.size W0 X) (g : (X.alloc o).grownBy w5 (Value.slice va j vc).ownBlock) => (show w5.cell? ⟨wb, 0, none⟩ = some (.string (bs nm)) ∧ w5.cell? ⟨wb, 1, none⟩ = some (.int .i64 (N : Nat)) ∧ w5.cell? ⟨wb, 2, none⟩ = some (.int .u32 (S : Nat)) from by
          have hb : w5.heap[wb]? = W0.heap[wb]? := (g.block wb (by have := b.size; simp; omega) (fun e => by have := (OB.out wb e.symm).2; omega)).trans ((Below.heap_alloc X o wb (by have := b.size; omega)).trans (b.block wb hws))
          have ck : ∀ k, w5.cell? ⟨wb, k, none⟩ = W0.cell? ⟨wb, k, none⟩ := fun k => by unfold World.cell?; rw [hb]
          exact ⟨(ck 0).trans q0, (ck 1).trans q1, (ck 2).trans q2⟩))
        have AL := Lib.hid (fun (X : World) (o : Obj) (b : Below W0.heap.size W0 X) => b.alloc b.size o)
        have hw64 : IntKind.u64.wrap (S : Int) = S := IntWalk.u64_in _ (by omega)
        clear HIT HFU d0 d1 d2 q0 q1 q2
        go_region_held3 (fun X => X.cell? ⟨wb, 0, none⟩ = some (.string (bs nm)) ∧ X.cell? ⟨wb, 1, none⟩ = some (.int .i64 (N : Nat)) ∧ X.cell? ⟨wb, 2, none⟩ = some (.int .u32 (S : Nat))) (first | exact S0 | exact S1 | exact DD.out _ (by assumption) | exact DD.out _ (AL.out _ _ (by assumption)) | assumption)
          (first
          | (go_at_call 106; refine (IT2.out _ BD.out).mono ?_; rintro e v1 ⟨rfl, b1⟩; have c1 := below_trans' BD.out b1)
          | (go_at_call 107; refine (FU2.out _ (by assumption)).mono ?_; rintro e v2 ⟨rfl, b2⟩; have c2 := below_trans' (by assumption) b2)
          | (refine step_append_own rfl (.tmp 33) (.tmp 47) 22 rfl w2.heap.size 9 i0 _ 1 16 Tryz.underlying22 hi hz0 hz1 hz2 rfl (by decide) (.slice va j vc) j _ rfl ((owns_below HOA.out (by assumption)).alloc _) ⟨_, 0, none⟩ 1 1 [.string (bs T)] rfl rfl (one_news (by simp)) (one_cell rfl) HN1.out HN2.out (NB.out _ _ (by assumption)) ?_; intro v' w5 hown5 hgrow _; have HO5 := Lib.hid hown5; have HG5 := Lib.hid (BG.out _ _ _ (by assumption) hgrow); have S5 := KG.out _ _ _ (by assumption) hgrow))
        go_wp2_with fail
        go_roundw
        case rel => exact ⟨j + 1, by go_num, KK.out, by rw [NX.out]; exact HO5.out, HG5.out⟩
        case measure => have := KK.out; simp [intOf]; omega
      · have hltI : ¬ (j : Int) < L.length := by omega
        obtain rfl : j = L.length := by omega
        have HJ := Lib.hid (joined_any (L.map fun f => SP.lineT f.line) w2.heap.size _ wr (by rw [List.length_map]; rw [List.take_length] at hown; exact hown) (by have := GL.out L.length; rw [List.take_length] at this; omega))
        obtain ⟨va, vc, rfl⟩ := owns_slice hown
        have BW := Lib.hid (below_trans' B2.out bel)
        clear hown bel
        go_wp2_with fail
        refine HJ.out.mono ?_
        rintro e w3 ⟨rfl, b3⟩
        have B3 := Lib.hid (below_trans' BW.out b3)
        clear b3 HJ
        go_wp2_with fail
        go_ret2
        exact ⟨_, A, k, rfl, told_nil E _, HX.out.below B3.out, by omega⟩
end
end Go.Proofs.YtppkeophochgiaaGreatDoor
/- A player's command: plan. -/
namespace Go.Proofs.YtppkeophochgiaaGreatDoor
open Go.RowKit
set_option linter.unusedVariables false
theorem plan_step {l m : List PF} (hl : FWF l) (hm : FWF m) : ∀ x ∈ planL (l.map PF.line) (m.map PF.line), x.k.length = 4 ∧ x.n.length ≤ 12 := by
  intro x hx
  have N1 : ∀ u, fgetL l x.n = some u → x.n.length ≤ 12 := fun u h => ((nameB_iff _).1 (hl.each _ (fgetL_some h)).1).2.1
  have N2 : ∀ u, fgetL m x.n = some u → x.n.length ≤ 12 := fun u h => ((nameB_iff _).1 (hm.each _ (fgetL_some h)).1).2.1
  rcases back_law hl hm x hx with ⟨h1, u, h2, _⟩ | ⟨h1, u, _, h2, _⟩ | ⟨h1, _, u, h2⟩
  · exact ⟨by rw [h1]; rfl, N1 u h2⟩
  · exact ⟨by rw [h1]; rfl, N1 u h2⟩
  · exact ⟨by rw [h1]; rfl, N2 u h2⟩
theorem plan_glue {l m : List PF} (hl : FWF l) (hm : FWF m) : (glueL ((planL (l.map PF.line) (m.map PF.line)).map SP.stepT)).length ≤ 1000 := by
  have h1 := glue_len 20 ((planL (l.map PF.line) (m.map PF.line)).map SP.stepT) (fun x hx => by
    obtain ⟨f, hf, rfl⟩ := List.mem_map.1 hx
    obtain ⟨a, b⟩ := plan_step hl hm f hf
    unfold SP.stepT
    simp only [List.length_append, List.length_cons]
    omega)
  have h2 := planL_le (l.map PF.line) (m.map PF.line)
  rw [List.length_map, List.length_map] at h2
  have a := hl.few
  have b := hm.few
  rw [List.length_map] at h1
  omega
section
variable {Q : Guest} {E : Nat → Addr} {w0 w w' : World} {pb k : Nat} {A : PlA} {s : SP}
attribute [local irreducible] SP.stepT glueL joinL planL
set_option maxRecDepth 100000 in
set_option maxHeartbeats 12800000 in
theorem pplan_any (v : Value) (h : PlAt Q w0 w pb A s k) (hI : SInv s) (hE : SEnv E w0) :
    Calls Tryz.prog 76 #[.pointer (some ⟨pb, 0, none⟩), v] w (Ans Q E w0 pb k s.plan) := by
  have HX := Lib.hid h
  have hWf := hI.fr.wf
  have hWt := hI.tt.wf
  have HEr := Lib.hid (fun (w' : World) (b : Below w.heap.size w w') => hE.err.below (below_trans' h.bel b))
  have HE := hE.err.below h.bel
  have L1 := Lib.hid (fllist_yes E s.fr A.vf w (SliceIs.ownedK h.fr) hWf.okx HE.e2 HE.e5 HE.e8 HE.e9 hWf)
  have L2 := Lib.hid (fun (w' : World) (b : Below w.heap.size w w') => fllist_yes E s.tt A.vt w' (SliceIs.ownedK (h.below b).tt) hWt.okx (HEr.out _ b).e2 (HEr.out _ b).e5 (HEr.out _ b).e8 (HEr.out _ b).e9 hWt)
  have LP := Lib.hid (fun (w' : World) (b : Below w.heap.size w w') v1 v2 h1 h2 => flplan_yes E (s.fr.map PF.line) (s.tt.map PF.line) v1 v2 w' h1 h2 hWf.lines hWt.lines (HEr.out _ b).e2 (HEr.out _ b).e5 (HEr.out _ b).e8 (HEr.out _ b).e9)
  have CS := Lib.hid (fun (w' : World) (b : Below w.heap.size w w') => (h.below b).cs)
  have PL := Lib.hid (planL_le (s.fr.map PF.line) (s.tt.map PF.line))
  have PS := Lib.hid (plan_step hWf hWt)
  have PG := Lib.hid (plan_glue hWf hWt)
  have LN : (planL (s.fr.map PF.line) (s.tt.map PF.line)).length ≤ 40 := by
    have := PL.out
    have a := hWf.few
    have b := hWt.few
    rw [List.length_map, List.length_map] at this
    omega
  obtain ⟨ga, gc, ha⟩ := owns_slice h.fr
  obtain ⟨ta, tc, ht⟩ := owns_slice h.tt
  have HQ : Hid (s.plan = (s, joinL ((planL (s.fr.map PF.line) (s.tt.map PF.line)).map SP.stepT), 0)) := Lib.hid rfl
  rw [HQ.out]
  obtain ⟨⟨c1, c2, c3, c4⟩, cf⟩ := h.cs
  obtain ⟨i0, hi, hz0, hz1, hz2⟩ := info_parts infoStr
  generalize planL (s.fr.map PF.line) (s.tt.map PF.line) = L at *
  generalize A.vf = vf at *
  generalize A.vt = vt at *
  subst ha
  subst ht
  clear h hI hE HE hWf hWt HQ cf c2 c3 c4 PL HEr
  go_enter Tryz.func76, Tryz.ntmps76
  go_wp2_with fail
  refine L1.out.mono ?_
  rintro e w1 ⟨r, rfl, hr, b1⟩
  have B1 := Lib.hid b1
  have HR := Lib.hid hr
  have c2 := (CS.out _ b1).1.2.1
  obtain ⟨ra, rc, rfl⟩ := owns_slice hr
  have L21 := Lib.hid (L2.out _ b1)
  clear L1 L2 c1 b1 hr
  go_wp2_with fail
  refine L21.out.mono ?_
  rintro e w2 ⟨r2, rfl, hr2, b2⟩
  have B2 := Lib.hid (below_trans' B1.out b2)
  have HR1 := Lib.hid (owns_below HR.out b2)
  have HR2 := Lib.hid hr2
  have LP1 := Lib.hid (LP.out _ B2.out _ _ (SliceIs.ownedK HR1.out) (SliceIs.ownedK HR2.out))
  obtain ⟨sa, sc, rfl⟩ := owns_slice hr2
  clear L21 HR LP c2 b2 hr2
  go_wp2_with fail
  refine LP1.out.mono ?_
  rintro e w3 ⟨r3, rfl, hr3, b3⟩
  have B3 := Lib.hid (below_trans' B2.out b3)
  have HR3 := Lib.hid hr3
  obtain ⟨pa, pc, rfl⟩ := owns_slice hr3
  clear LP1 HR1 HR2 b3 hr3
  go_wp2_with fail
  go_loopw [10, 12, 43] (fun o _ i wr => ∃ j : Nat, i = .int .i64 j ∧ j ≤ L.length ∧ wr.ownsRow w3.heap.size 9 1 o j (strV ((L.take j).map SP.stepT)) ∧ Below w3.heap.size w3 wr) (fun _ _ i _ => L.length - (intOf i).toNat)
  case atStart => exact ⟨0, rfl, by omega, World.ownsRow_nil _ _ _ _, Below.refl _ _⟩
  case round =>
    obtain ⟨j, rfl, hj, hown, bel⟩ := hrel
    by_cases hlt : j < L.length
    · have hltI : (j : Int) < L.length := by omega
      obtain ⟨s0', n0', c0', e1, _, _, _, g1⟩ := ((SliceIs.ownedK HR3.out).below bel).get
      cases e1
      obtain ⟨g2, g3⟩ := scells_get L j hlt
      obtain ⟨ad, rfl, d0⟩ := g1 _ _ g2
      obtain ⟨a', e', d1⟩ := g1 _ _ g3
      cases e'
      clear g1 g2 g3
      have NX := Lib.hid (show strV ((L.take (j + 1)).map SP.stepT) = strV ((L.take j).map SP.stepT) ++ [.string (bs (SP.stepT L[j]))] by
        rw [List.take_succ_eq_append_getElem hlt, List.map_append]; exact strV_snoc _ _)
      obtain ⟨p1, p2⟩ := PS.out L[j] (List.getElem_mem _)
      have KK := Lib.hid (show j + 1 ≤ L.length by omega)
      have x1 : (0 : Int) ≤ j := by omega
      have x2 : (j : Int).toNat = j := by omega
      have ES := Lib.hid (show SP.stepT L[j] = L[j].k ++ [58] ++ L[j].n by unfold SP.stepT; simp)
      generalize SP.stepT L[j] = T at *
      generalize L[j] = x at d0 d1 p1 p2 ES
      have d1 := cell_at d1
      obtain ⟨Y1, hY1⟩ : ∃ Y, Y = x.k ++ [58] := ⟨_, rfl⟩
      have hA1 : bs x.k ++ ⟨#[58]⟩ = bs Y1 := by rw [col58, hY1]; exact bs_add x.k [58]
      have hA2 : bs Y1 ++ bs x.n = bs T := by rw [ES.out, hY1]; exact bs_add _ _
      have hl1 : Y1.length ≤ 5 := by rw [hY1, List.length_append]; simp; omega
      have HN1 : Hid (j + 1 ≤ maxLen) := by show _ ≤ _; unfold maxLen; omega
      have HN2 : Hid ((j + 1) * 16 ≤ 140737488355328) := by show _ ≤ _; omega
      have hc1 : ¬ 9223372036854775807 < x.k.length + 1 := by omega
      have hc2 : ¬ 9223372036854775807 < Y1.length + x.n.length := by omega
      have BW := Lib.hid bel
      have HO := Lib.hid hown
      have HSZ := Lib.hid bel.size
      obtain ⟨va, vc, rfl⟩ := owns_slice hown
      clear hown bel hY1 ES
      go_wp2_with (at_builtin; refine wpList_append_own _ rfl _ _ 22 rfl w3.heap.size 9 i0 _ 1 16 Tryz.underlying22 hi hz0 hz1 hz2 rfl (by decide) _ _ _ rfl ((HO.out.alloc _).alloc _) ⟨wr.heap.size + 1, 0, none⟩ 1 1 [.string (bs T)] rfl rfl (one_news (by simp)) (one_cell rfl) HN1.out HN2.out (by have := HSZ.out; simp; omega) ?_; intro v' w5 hown5 hgrow _; have HO5 := Lib.hid hown5; have B5 := Lib.hid (((BW.out.alloc HSZ.out _).alloc (by have := HSZ.out; simp; omega) _).grown hgrow (by have := HSZ.out; simp; omega) (fun j hj => (HO.out.lt j hj).1)); clear hown5 hgrow)
      go_wp2_with fail
      go_roundw
      case rel => exact ⟨j + 1, by go_num, KK.out, by rw [NX.out]; exact HO5.out, B5.out⟩
      case measure => have := KK.out; simp [intOf]; omega
    · have hltI : ¬ (j : Int) < L.length := by omega
      obtain rfl : j = L.length := by omega
      have HJ := Lib.hid (joined_any (L.map SP.stepT) w3.heap.size _ wr (by rw [List.length_map]; rw [List.take_length] at hown; exact hown) (by have := PG.out; omega))
      obtain ⟨va, vc, rfl⟩ := owns_slice hown
      have BW := Lib.hid (below_trans' B3.out bel)
      clear hown bel
      go_wp2_with fail
      refine HJ.out.mono ?_
      rintro e w4 ⟨rfl, b4⟩
      have B4 := Lib.hid (below_trans' BW.out b4)
      clear b4 HJ
      go_wp2_with fail
      go_ret2
      exact ⟨_, A, k, rfl, told_nil E _, HX.out.below B4.out, by omega⟩
end
end Go.Proofs.YtppkeophochgiaaGreatDoor
/- Contracts of basis.Text, Far. -/
namespace Go.Proofs.YtppkeophochgiaaGreatDoor
open Go.RowKit
set_option linter.unusedVariables false

def PMk.vals (m : PMk) : List Value := [.string (bs m.n), .int .i64 m.N, .int .u32 m.S]
def PMk.val (m : PMk) : Value := .agg #[.string (bs m.n), .int .i64 m.N, .int .u32 m.S]
def mkcells (l : List PMk) : List Value := l.flatMap PMk.vals
theorem PMk.vals_len (m : PMk) : m.vals.length = 3 := rfl
theorem mkcells_len (l : List PMk) : (mkcells l).length = l.length * 3 := flat_len _ 3 PMk.vals_len l
theorem mkcells_snoc (l : List PMk) (m : PMk) : mkcells (l ++ [m]) = mkcells l ++ m.vals := by unfold mkcells; simp
theorem mkcells_get (l : List PMk) (k : Nat) (h : k < l.length) : (mkcells l)[k * 3]? = some (.string (bs l[k].n)) ∧ (mkcells l)[k * 3 + 1]? = some (.int .i64 l[k].N) ∧ (mkcells l)[k * 3 + 2]? = some (.int .u32 l[k].S) := by
  refine ⟨?_, ?_, ?_⟩
  · have := flat_get PMk.vals 3 PMk.vals_len l k 0 h (by omega); rw [Nat.add_zero] at this; exact this
  · exact flat_get PMk.vals 3 PMk.vals_len l k 1 h (by omega)
  · exact flat_get PMk.vals 3 PMk.vals_len l k 2 h (by omega)
theorem mk_cs {w : World} {b : Nat} {u0 u1 u2 : Value} {t : TypeId} (h : w.heap[b]? = some (.cells #[u0, u1, u2] t (0, 0))) : w.cell? ⟨b, 0, none⟩ = some u0 ∧ w.cell? ⟨b, 1, none⟩ = some u1 ∧ w.cell? ⟨b, 2, none⟩ = some u2 := by
  refine ⟨?_, ?_, ?_⟩ <;> simp [World.cell?, h]
attribute [local irreducible] nameB
set_option maxRecDepth 100000 in
set_option maxHeartbeats 6400000 in
theorem btext_any (E : Nat → Addr) (m : PMk) (w : World) (hw : LibW E w) (hn : m.n.length ≤ 1000000000) (hS : m.S ≤ 4294967295) (h5 : Has E w 5) (h2 : Has E w 2) :
    Calls Tryz.prog 120 #[m.val] w fun e w' => e = .returned (.tuple #[.string (bs (mkX m)), ev E (mkC m)]) ∧ Below w.heap.size w w' := by
  obtain ⟨n, N, S⟩ := m
  simp only at hn hS
  have B0 := Lib.hid (wb_alloc w (.cells #[.string (bs n), .int .i64 N, .int .u32 S] 202))
  have HX := Lib.hid (heap_alloc_new w (.cells #[.string (bs n), .int .i64 N, .int .u32 S] 202))
  have NM := Lib.hid (fun w' => flname_any n w' (by unfold maxLen; omega))
  have XK := Lib.hid (fun (w' : World) (b : Below (w.alloc (.cells #[.string (bs n), .int .i64 N, .int .u32 S] 202)).heap.size (w.alloc (.cells #[.string (bs n), .int .i64 N, .int .u32 S] 202)) w') => mk_cs ((b.block w.heap.size (by simp)).trans HX.out))
  have E5 := Lib.hid (fun (w' : World) (b : Below (w.alloc (.cells #[.string (bs n), .int .i64 N, .int .u32 S] 202)).heap.size (w.alloc (.cells #[.string (bs n), .int .i64 N, .int .u32 S] 202)) w') => show w'.cell? ⟨4, 0, none⟩ = some (errv (E 5)) from (h5.below B0.out).below b)
  have E2 := Lib.hid (fun (w' : World) (b : Below (w.alloc (.cells #[.string (bs n), .int .i64 N, .int .u32 S] 202)).heap.size (w.alloc (.cells #[.string (bs n), .int .i64 N, .int .u32 S] 202)) w') => show w'.cell? ⟨0, 0, none⟩ = some (errv (E 2)) from (h2.below B0.out).below b)
  have LW := Lib.hid (fun (w' : World) (b : Below (w.alloc (.cells #[.string (bs n), .int .i64 N, .int .u32 S] 202)).heap.size (w.alloc (.cells #[.string (bs n), .int .i64 N, .int .u32 S] 202)) w') => (hw.below B0.out).below b)
  have c0 := (mk_cs HX.out).1
  clear h5 h2 hw
  show Calls _ _ #[.agg #[.string (bs n), .int .i64 N, .int .u32 S]] _ _
  by_cases hnm : nameB n = true
  · rw [hnm] at NM
    by_cases hN : 0 ≤ N ∧ N ≤ 4000
    · obtain ⟨hN1, hN2⟩ := hN
      obtain ⟨K, rfl⟩ := Int.eq_ofNat_of_zero_le hN1
      have hC : mkC ⟨n, K, S⟩ = 0 := by unfold mkC; rw [if_neg (by simp [hnm]), if_neg (by simp only; omega)]
      have hX : mkX ⟨n, K, S⟩ = n ++ 32 :: (Lib.decDigits K ++ 32 :: Lib.decDigits S) := by unfold mkX mkT; rw [if_pos hC]; simp
      rw [hC, hX, ev_zero]
      have hl1 := dec_len_le (n := K) (k := 18) (by omega)
      have hl2 := dec_len_le (n := S) (k := 18) (by omega)
      have HFIN : Hid (((bs n ++ ⟨#[32]⟩ ++ bs (Lib.decDigits K)) ++ ⟨#[32]⟩) ++ bs (Lib.decDigits S) = bs (n ++ 32 :: (Lib.decDigits K ++ 32 :: Lib.decDigits S))) := Lib.hid (by
        apply eq_bs
        simp)
      have IT := Lib.hid (fun (w' : World) (h : LibW E w') => itoa_any E K w' h (by omega))
      have FU := Lib.hid (fun (w' : World) (h : LibW E w') => fmtuint_any E S w' h hS)
      have hsz : (bs n).size = n.length := bs_size n
      have hI1 : ¬ ((K : Int) < 0) := by omega
      have hI2 : ¬ (4000 : Int) < K := by omega
      have k1 : ¬ 9223372036854775807 < n.length + 1 := by omega
      have k2 : ¬ 9223372036854775807 < n.length + 1 + (Lib.decDigits K).length := by omega
      have k3 : ¬ 9223372036854775807 < n.length + 1 + (Lib.decDigits K).length + 1 := by omega
      have k4 : ¬ 9223372036854775807 < n.length + 1 + (Lib.decDigits K).length + 1 + (Lib.decDigits S).length := by omega
      have hw64 : IntKind.u64.wrap (S : Int) = S := IntWalk.u64_in _ (by omega)
      clear hC hX hl1 hl2 E5 E2
      generalize Lib.decDigits K = dk at *
      generalize Lib.decDigits S = ds at *
      go_enter Tryz.func120, Tryz.ntmps120
      go_wp2_with fail
      refine (NM.out _).mono ?_
      rintro e w1 ⟨rfl, b1⟩
      obtain ⟨d0, d1, d2⟩ := XK.out _ b1
      have SS := And.intro d0 (And.intro d1 d2)
      have SB := Lib.hid b1
      have KK := Lib.hid (fun (w' : World) (b : Below w1.heap.size w1 w') => XK.out _ (below_trans' SB.out b))
      have LL := Lib.hid (fun (w' : World) (b : Below w1.heap.size w1 w') => LW.out _ (below_trans' SB.out b))
      have BR := Below.refl w1.heap.size w1
      clear b1 c0 XK LW NM
      go_wp2_with fail
      go_region_held3 (fun w' => w'.cell? ⟨w.heap.size, 0, none⟩ = some (.string (bs n)) ∧ w'.cell? ⟨w.heap.size, 1, none⟩ = some (.int .i64 K) ∧ w'.cell? ⟨w.heap.size, 2, none⟩ = some (.int .u32 S)) (first | assumption | exact SS | exact KK.out _ (Below.drew BR))
        (first
        | (go_at_call 106; refine (IT.out _ (LL.out _ (by first | assumption | exact BR | exact Below.drew BR))).mono ?_; rintro e w2 ⟨rfl, b2⟩; have bb2 := below_trans' (by first | assumption | exact BR | exact Below.drew BR) b2; have SS2 := KK.out _ bb2; clear b2)
        | (go_at_call 107; refine (FU.out _ (LL.out _ (by first | assumption | exact BR | exact Below.drew BR))).mono ?_; rintro e w3 ⟨rfl, b3⟩; have bb3 := below_trans' (by first | assumption | exact BR | exact Below.drew BR) b3; have SS3 := KK.out _ bb3; clear b3))
      all_goals
        have BF := Lib.hid (below_trans' SB.out bb3)
        go_wp2_with fail
        go_ret2
        rw [← HFIN.out]
        exact ⟨rfl, below_trans' B0.out BF.out⟩
    · have hC : mkC ⟨n, N, S⟩ = 2 := by unfold mkC; rw [if_neg (by simp [hnm]), if_pos (by simp only; omega)]
      have hX : mkX ⟨n, N, S⟩ = [] := by unfold mkX; rw [if_neg (by rw [hC]; decide)]
      rw [hC, hX, ev_is E (by decide), bs_nil]
      have hor : N < 0 ∨ ¬ N < 0 ∧ 4000 < N := by omega
      clear hC hX hN E5 LW
      rcases hor with h1 | ⟨h1, h3⟩
      all_goals
        go_enter Tryz.func120, Tryz.ntmps120
        go_wp2_with fail
        refine (NM.out _).mono ?_
        rintro e w1 ⟨rfl, b1⟩
        obtain ⟨d0, d1, d2⟩ := XK.out _ b1
        have d5 := E2.out _ b1
        have SB := Lib.hid (below_trans' B0.out b1)
        clear b1 c0 d0 d2 XK NM E2
        go_wp2_with fail
        go_quiet (fail)
        go_wp2_with fail
        go_ret2
        exact ⟨rfl, below_drewN SB.out _⟩
  · have hnm' : nameB n = false := by simpa using hnm
    rw [hnm'] at NM
    have hC : mkC ⟨n, N, S⟩ = 5 := by unfold mkC; rw [if_pos hnm']
    have hX : mkX ⟨n, N, S⟩ = [] := by unfold mkX; rw [if_neg (by rw [hC]; decide)]
    rw [hC, hX, ev_is E (by decide), bs_nil]
    clear hC hX hnm hnm' E2 LW
    go_enter Tryz.func120, Tryz.ntmps120
    go_wp2_with fail
    refine (NM.out _).mono ?_
    rintro e w1 ⟨rfl, b1⟩
    have d5 := E5.out _ b1
    have SB := Lib.hid (below_trans' B0.out b1)
    clear b1 c0 XK NM E5
    go_wp2_with fail
    go_quiet (fail)
    go_wp2_with fail
    go_ret2
    exact ⟨rfl, below_drewN SB.out _⟩
end Go.Proofs.YtppkeophochgiaaGreatDoor
