/- Texts of one proof, one behind the other: Near, Alike. -/
import Derived.Test.YtdpoalbbcmkceaaGreatDoorB40
import Derived.Test.YtdpoalbbcmkceaaGreatDoorB37
/- A statement's near and alike: where they hold. -/
namespace Go.Proofs.YtdpoalbbcmkceaaGreatDoor
open Go.RowKit
set_option linter.unusedVariables false
theorem flFault_zero' {l : List PF} (h : (flFault l).1 = 0) : flFault l = (0, -1) := by unfold flFault at h ⊢; exact lnFault_zero h
theorem fault_code (w : World) : (Instr.field 42 (.agg #[.int .i64 0, .int .i64 (-1)]) 0).run Tryz.prog w = .ok (.int .i64 0) w := by kernel_rfl
/-- a file is one that was there, or one of the source's by how many bytes, and their sum -/
def NearF (fr t0 : List PF) (g : PF) : Prop := fgetL t0 g.n = some g.d ∨ ∃ d, fgetL fr g.n = some d ∧ d.length = g.d.length ∧ csum d = csum g.d
set_option maxRecDepth 100000 in
set_option maxHeartbeats 6400000 in
theorem near_yes (l fr t0 : List PF) (v vf vt : Value) (w : World) (hl : SliceIs w v 2 (fcells l)) (hf : SliceIs w vf 2 (fcells fr)) (ht : SliceIs w vt 2 (fcells t0)) (hw : FWF l) (hd : ∀ g ∈ fr, g.d.length ≤ 100000) (hn : ∀ g ∈ l, NearF fr t0 g) :
    Calls Tryz.prog 15 #[v, vf, vt] w fun e w' => e = .returned (.bool true) ∧ Below w.heap.size w w' := by
  have FF := filesFault_any l v w hl (fun x hx => by have h1 := hw.each x hx; have h2 := (nameB_iff _).1 h1.1; omega) (by have := hw.few; omega)
  rw [show flFault l = (0, -1) from flFault_zero' ((flFault_wf l).2 hw)] at FF
  have FF := Lib.hid FF
  have HW := Lib.hid hw
  obtain ⟨s, m, c, rfl, hn1, h1, h2, hg⟩ := hl.get
  rw [fcells_len] at hn1
  obtain rfl : m = l.length := by omega
  unfold maxLen at h2
  have HSL := Lib.hid hl
  have HN := Lib.hid hn
  have HD := Lib.hid hd
  have GT := Lib.hid (fun (n : List UInt8) (w' : World) (b : Below w.heap.size w w') => getOf_any t0 vt n w' (ht.below b))
  have GF := Lib.hid (fun (n : List UInt8) (w' : World) (b : Below w.heap.size w w') => getOf_any fr vf n w' (hf.below b))
  have SO := Lib.hid (fun (s : ByteArray) (h : s.size ≤ 100000) (w' : World) => sumOf_any s w' (by omega))
  clear hl hf ht hw hd hn hg
  have RZ := Lib.hid (show rfv (0, -1) = .agg #[.int .i64 0, .int .i64 (-1)] from rfv_is (0, -1))
  rw [RZ.out] at FF
  have FRUN := fault_code
  go_enter Tryz.func15, Tryz.ntmps15
  go_wp2_with fail
  refine FF.out.mono ?_
  rintro e w1 ⟨rfl, b1⟩
  have B1 := Lib.hid b1
  clear FF b1
  go_wp2_with fail
  go_loopw [7, 8, 9, 10] (fun i _ _ _ wr => ∃ k : Nat, i = .int .i64 k ∧ k ≤ l.length ∧ Below w.heap.size w wr) (fun i _ _ _ _ => l.length - (intOf i).toNat)
  case atStart => exact ⟨0, rfl, by omega, B1.out⟩
  case round =>
    obtain ⟨k, rfl, hk, bel⟩ := hrel
    have BW := Lib.hid bel
    clear bel B1
    by_cases hlt : k < l.length
    · have hltI : (k : Int) < l.length := by omega
      obtain ⟨s0', n0', c0', e1, _, _, _, g1⟩ := (HSL.out.below BW.out).get
      cases e1
      obtain ⟨g2, g3⟩ := fcells_get l k hlt
      obtain ⟨ad, rfl, d0⟩ := g1 _ _ g2
      obtain ⟨a', e', d1⟩ := g1 _ _ g3
      cases e'
      clear g1 g2 g3
      have KK := Lib.hid (show k + 1 ≤ l.length by omega)
      have x1 : (0 : Int) ≤ k := by omega
      have x2 : (k : Int).toNat = k := by omega
      have NF := HN.out l[k] (List.getElem_mem _)
      have DL := ((HW.out).each l[k] (List.getElem_mem _)).2
      generalize l[k] = x at d0 d1 NF DL
      have d1 := cell_at d1
      have G1 := GT.out x.n wr BW.out
      have hs1 : (bs x.d).size = x.d.length := bs_size _
      by_cases hA : fgetL t0 x.n = some x.d
      · rw [hA] at G1
        have hq : ((bs x.d).toList == (bs x.d).toList) = true := by simp
        have G1 := Lib.hid G1
        clear NF hA
        go_wp2_with fail
        refine G1.out.mono ?_
        rintro e w2 ⟨rfl, b2⟩
        have B2 := Lib.hid (below_trans' BW.out b2)
        have d0 := (b2.cell (World.block_lt_of_cell? wr _ d0)).trans d0
        have d1 := (b2.cell (World.block_lt_of_cell? wr _ d1)).trans d1
        clear b2 G1
        go_wp2_with fail
        go_roundw
        case rel => exact ⟨k + 1, by go_num, KK.out, B2.out⟩
        case measure => simp [intOf]; omega
      · have NFB := NF.resolve_left hA
        obtain ⟨d, hgd, hd1, hd2⟩ := NFB
        have HDD := HD.out ⟨x.n, d⟩ (fgetL_some hgd)
        simp only [] at HDD
        have G2 := GF.out x.n
        rw [hgd] at G2
        have hq1 : (bs d).size = d.length := bs_size _
        have hld : ((d.length : Nat) : Int) = (x.d.length : Nat) := by omega
        have hgo : ((fgetL t0 x.n).isSome = true ∧ ((bs ((fgetL t0 x.n).getD [])).toList == (bs x.d).toList) = false) ∨ (fgetL t0 x.n).isSome = false := by
          cases hg : fgetL t0 x.n with
          | none => exact .inr rfl
          | some d0 =>
            refine .inl ⟨rfl, ?_⟩
            show ((bs d0).toList == (bs x.d).toList) = false
            rw [bs_tl', bs_tl']
            simp
            intro e
            exact hA (by rw [hg, e])
        have SD := Lib.hid (fun w' => SO.out (bs d) (by rw [bs_size]; exact HDD) w')
        have SX := Lib.hid (fun w' => SO.out (bs x.d) (by rw [bs_size]; omega) w')
        rw [bs_list, hd2] at SD
        rw [bs_list] at SX
        generalize bs ((fgetL t0 x.n).getD []) = gd at *
        generalize (fgetL t0 x.n).isSome = gi at *
        generalize csum x.d = cs at *
        have G1 := Lib.hid G1
        have G2 := Lib.hid G2
        have hqs : ((cs : Int) != cs) = false := by simp
        clear NF hA hgd hd1 hd2 HDD DL
        rcases hgo with ⟨rfl, hg2⟩ | rfl
        all_goals
          go_wp2_with fail
          refine G1.out.mono ?_
          rintro e w2 ⟨rfl, b2⟩
          have B2 := Lib.hid (below_trans' BW.out b2)
          have d0 := (b2.cell (World.block_lt_of_cell? wr _ d0)).trans d0
          have d1 := (b2.cell (World.block_lt_of_cell? wr _ d1)).trans d1
          have G3 := Lib.hid (G2.out _ B2.out)
          clear b2 G1
          go_wp2_with fail
          refine G3.out.mono ?_
          rintro e w3 ⟨rfl, b3⟩
          have B3 := Lib.hid (below_trans' B2.out b3)
          have d0 := (b3.cell (World.block_lt_of_cell? w2 _ d0)).trans d0
          have d1 := (b3.cell (World.block_lt_of_cell? w2 _ d1)).trans d1
          clear b3 G3 B2
          go_wp2_with fail
          go_quiet ((go_at_call 31; first | exact Calls.quiet_of_same (SD.out _) | exact quiet_left (SD.out _) | exact quiet_add_left (SD.out _) | exact quiet_left (SX.out _) | exact quiet_add_left (SX.out _)))
          go_wp2_with fail
          go_roundw
          case rel => exact ⟨k + 1, by go_num, KK.out, below_drewN B3.out _⟩
          case measure => simp [intOf]; omega
    · have hltI : ¬ (k : Int) < l.length := by omega
      go_wp2_with fail
      go_ret
      exact ⟨rfl, BW.out⟩
end Go.Proofs.YtdpoalbbcmkceaaGreatDoor
/- A statement's alike: where it holds. -/
namespace Go.Proofs.YtdpoalbbcmkceaaGreatDoor
open Go.RowKit
set_option linter.unusedVariables false
set_option maxRecDepth 100000 in
set_option maxHeartbeats 6400000 in
theorem alike_yes (l fr : List PF) (v vf : Value) (w : World) (hl : SliceIs w v 2 (fcells l)) (hf : SliceIs w vf 2 (fcells fr)) (hd : ∀ g ∈ fr, g.d.length ≤ 100000) (hn : l.map PF.line = fr.map PF.line) :
    Calls Tryz.prog 18 #[v, vf] w fun e w' => e = .returned (.bool true) ∧ Below w.heap.size w w' := by
  have hlen : l.length = fr.length := by have := congrArg List.length hn; simpa using this
  obtain ⟨s, m, c, rfl, hn1, h1, h2, hg⟩ := hl.get
  rw [fcells_len] at hn1
  obtain rfl : m = l.length := by omega
  unfold maxLen at h2
  obtain ⟨sf, mf, cf, rfl, hn1f, h1f, h2f, hgf⟩ := hf.get
  rw [fcells_len] at hn1f
  obtain rfl : mf = l.length := by omega
  have HSL := Lib.hid hl
  have HSF := Lib.hid hf
  have HN := Lib.hid hn
  have HD := Lib.hid hd
  have HLEN := Lib.hid hlen
  have SO := Lib.hid (fun (s : ByteArray) (h : s.size ≤ 100000) (w' : World) => sumOf_any s w' (by omega))
  clear hl hf hd hn hg hgf hn1 hn1f hlen
  go_enter Tryz.func18, Tryz.ntmps18
  go_wp2_with fail
  go_loopw [5] (fun i wr => ∃ k : Nat, i = .int .i64 k ∧ k ≤ l.length ∧ Below w.heap.size w wr) (fun i _ => l.length - (intOf i).toNat)
  case atStart => exact ⟨0, rfl, by omega, Below.refl _ _⟩
  case round =>
    obtain ⟨k, rfl, hk, bel⟩ := hrel
    have BW := Lib.hid bel
    clear bel
    by_cases hlt : k < l.length
    · have hltI : (k : Int) < l.length := by omega
      have hltF : k < fr.length := by have := HLEN.out; omega
      obtain ⟨s0', n0', c0', e1, _, _, _, g1⟩ := (HSL.out.below BW.out).get
      cases e1
      obtain ⟨g2, g3⟩ := fcells_get l k hlt
      obtain ⟨ad, rfl, d0⟩ := g1 _ _ g2
      obtain ⟨a', e', d1⟩ := g1 _ _ g3
      cases e'
      clear g1 g2 g3
      obtain ⟨s0', n0', c0', e1, _, _, _, g1⟩ := (HSF.out.below BW.out).get
      cases e1
      obtain ⟨g2, g3⟩ := fcells_get fr k hltF
      obtain ⟨af, rfl, f0⟩ := g1 _ _ g2
      obtain ⟨a', e', f1⟩ := g1 _ _ g3
      cases e'
      clear g1 g2 g3
      have KK := Lib.hid (show k + 1 ≤ l.length by omega)
      have x1 : (0 : Int) ≤ k := by omega
      have x2 : (k : Int).toNat = k := by omega
      have HE : (l[k]'hlt).line = (fr[k]'hltF).line := by
        have := HN.out
        have h3 : (l.map PF.line)[k]? = (fr.map PF.line)[k]? := by rw [this]
        rw [List.getElem?_map, List.getElem?_map, List.getElem?_eq_getElem hlt, List.getElem?_eq_getElem hltF] at h3
        exact Option.some.inj h3
      have DF := HD.out _ (List.getElem_mem hltF)
      generalize l[k]'hlt = x at d0 d1 HE
      generalize fr[k]'hltF = y at f0 f1 HE DF
      have e1 : y.n = x.n := (congrArg PL.n HE).symm
      have e2 : x.d.length = y.d.length := by
        have : ((x.d.length : Nat) : Int) = (y.d.length : Nat) := congrArg PL.N HE
        omega
      have e3 : csum y.d = csum x.d := (congrArg PL.S HE).symm
      rw [e1] at f0
      have d1 := cell_at d1
      have f1 := cell_at f1
      have hs1 : (bs x.d).size = x.d.length := bs_size _
      have hs2 : (bs y.d).size = x.d.length := by rw [bs_size]; omega
      have SX := Lib.hid (fun w' => SO.out (bs x.d) (by rw [bs_size]; omega) w')
      have SY := Lib.hid (fun w' => SO.out (bs y.d) (by rw [bs_size]; omega) w')
      rw [bs_list, e3] at SY
      rw [bs_list] at SX
      have hq : ((bs x.n).toList != (bs x.n).toList) = false := by simp
      have hql : ((x.d.length : Int) != x.d.length) = false := by simp
      generalize csum x.d = cs at *
      have hqs : ((cs : Int) != cs) = false := by simp
      clear HE DF e1 e2 e3
      go_wp2_with fail
      go_quiet ((go_at_call 31; first | exact Calls.quiet_of_same (SX.out _) | exact quiet_left (SX.out _) | exact quiet_add_left (SX.out _) | exact quiet_left (SY.out _) | exact quiet_add_left (SY.out _)))
      go_wp2_with fail
      go_roundw
      case rel => exact ⟨k + 1, by go_num, KK.out, below_drewN BW.out _⟩
      case measure => simp [intOf]; omega
    · have hltI : ¬ (k : Int) < l.length := by omega
      go_wp2_with fail
      go_ret
      exact ⟨rfl, BW.out⟩
end Go.Proofs.YtdpoalbbcmkceaaGreatDoor
