/- Texts of one proof, one behind the other: XferTurn, XferDo, Cells4, XferAnsL. -/
import Derived.Test.YtppkeophochgiaaGreatDoorB37
import Derived.Test.YtppkeophochgiaaGreatDoorB02
import Derived.Test.YtppkeophochgiaaGreatDoorB31
import Derived.Test.YtppkeophochgiaaGreatDoorB26
import Derived.Test.YtppkeophochgiaaGreatDoorB12
/- Contract of a transfer: turn: a bit of the first packet is turned. -/
namespace Go.Proofs.YtppkeophochgiaaGreatDoor
open Go.RowKit
set_option linter.unusedVariables false
section
variable {E : Nat → Addr} {w0 w w' : World} {xb : Nat} {A : XA} {x : XS}
theorem XAt.netSet (h : XAt w0 w xb A x) {net' : List (List UInt8 × Bool)} (hc : Chg w w' (fun b => A.vn.ownBlock = some b)) (hn : w'.ownsRow w0.heap.size 255 2 A.vn net'.length (pcells net')) : XAt w0 w' xb A { x with net := net' } := by
  obtain ⟨es, c, hm⟩ := h.fu.isMap
  have h1 : XCell w' xb A (.pointer (some ⟨A.fb, 0, none⟩)) (.map (some A.ub)) x := (hc.block xb (lt_of_block h.cells) (own_ne h.rest.nt h.cells (by decide))).trans h.cells
  have h2 : FlowAt w' A.fb x.W x.L x.T x.G := (hc.block A.fb h.fl.lt (own_ne h.rest.nt h.fl (by decide))).trans h.fl
  have h3 : FMapIs w' A.ub x.fu.length x.fu := h.fu.kept (hc.block A.ub h.fu.lt (own_ne_map h.rest.nt hm))
  have hr := h.rest.netAt hc hn
  exact ⟨h1, hr, h2, h3, h.ne, h.lx, h.lf, h.lu⟩
set_option maxRecDepth 100000 in
set_option maxHeartbeats 12800000 in
theorem xturn_any (q : Nat) (h : XAt w0 w xb A x) (hq : q ≤ 1152921504606846976) (p : List UInt8 × Bool) (r : List (List UInt8 × Bool)) (hnet : x.net = p :: r) (hl : x.net.length ≤ 1000000000) (h0 : 0 < p.1.length) (h1 : p.1.length ≤ 100000) :
    Calls Tryz.prog 160 #[.pointer (some ⟨xb, 0, none⟩), .int .i64 q] w fun e w' => e = .returned (.tuple #[]) ∧ ∃ A', XAt w0 w' xb A' (x.turn q) := by
  have hlen : x.net.length = r.length + 1 := by rw [hnet]; rfl
  have HX := Lib.hid h
  have c3 := h.cells.cs.2.2.2.1
  obtain ⟨g, cap, hv, hc1, hc2⟩ := own_is h.rest.nt (by omega)
  have HO := h.rest.nt
  rw [hv] at HO c3
  have d0 := HO.cellAt (0 * 2) (by omega)
  have d1 := HO.cellAt (0 * 2 + 1) (by omega)
  have hp0 : x.net[0]'(by omega) = p := by simp [hnet]
  rw [(pcells_get x.net 0 (by omega)).1, hp0] at d0
  rw [(pcells_get x.net 0 (by omega)).2, hp0] at d1
  simp only [Nat.zero_mul, Nat.zero_add] at d0 d1
  have fz0 := HO.frozenAt 0
  have fz1 := HO.frozenAt 1
  have hlI : (0 : Int) < x.net.length := by omega
  have XT : x.turn q = if p.2 = true then x else { x with net := (XS.flip p.1 q, true) :: r } := by unfold XS.turn; rw [hnet]
  cases hp2 : p.2 with
  | true =>
    rw [hp2] at d1 XT
    rw [XT, if_pos rfl]
    clear h XT HO hnet hp0 hv
    go_enter Tryz.func160, Tryz.ntmps160
    go_wp2_with fail
    go_returns
    exact ⟨rfl, A, HX.out⟩
  | false =>
    rw [hp2] at d1 XT
    rw [XT, if_neg (by simp)]
    obtain ⟨L, hL⟩ : ∃ L, p.1 = L := ⟨_, rfl⟩
    rw [hL] at d0 h0 h1 ⊢
    obtain ⟨m, hm⟩ : ∃ m, m = q % (8 * L.length) := ⟨_, rfl⟩
    have hml : m < 8 * L.length := by rw [hm]; exact Nat.mod_lt _ (by omega)
    have hwm : IntKind.i64.wrap (8 * (L.length : Int)) = 8 * (L.length : Int) := IntWalk.i64_in _ (by omega)
    have hmm : (q : Int) % (8 * (L.length : Int)) = (m : Int) := by rw [hm]; simp
    have hmt : (q : Int).tmod (8 * (L.length : Int)) = (m : Int) := by rw [Int.tmod_eq_emod_of_nonneg (by omega)]; exact hmm
    have hmw : IntKind.i64.wrap ((q : Int).tmod (8 * (L.length : Int))) = (m : Int) := by rw [hmt]; exact IntWalk.i64_in _ (by omega)
    have hmw2 : IntKind.i64.wrap (m : Int) = (m : Int) := IntWalk.i64_in _ (by omega)
    have hne0 : ((8 * (L.length : Int)) == 0) = false := by rw [beq_eq_false_iff_ne]; omega
    obtain ⟨pp, hpp⟩ : ∃ pp, pp = m / 8 := ⟨_, rfl⟩
    obtain ⟨qq, hqq⟩ : ∃ qq, qq = m % 8 := ⟨_, rfl⟩
    have hpl : pp < L.length := by omega
    have hps : pp < (bs L).size := by rw [bs_size]; exact hpl
    have hq8 : qq < 8 := by omega
    have e1 : (m : Int) / 8 = (pp : Int) := by omega
    have e2 : (m : Int) % 8 = (qq : Int) := by omega
    obtain ⟨cap', o, hcv, hcap, hcell, hfr⟩ := convB_text (P := Tryz.prog) w 9 107 5 (bs L) Tryz.underlying9 Tryz.underlying107 Tryz.underlying5
    have hc := hcell pp hps
    have hfz := hfr pp hps
    obtain ⟨z, hz⟩ : ∃ z : UInt8, z = UInt8.ofNat (2 ^ qq) := ⟨_, rfl⟩
    have hq256 : 2 ^ qq < 256 := by
      have := Nat.pow_lt_pow_right (show 1 < 2 by decide) hq8
      simpa using this
    have hzn : z.toNat = 2 ^ qq := by rw [hz]; simp; omega
    have hpw : (2 : Int) ^ qq % 256 = (z.toNat : Int) := by
      have h2 : ((2 : Int) ^ qq) = ((2 ^ qq : Nat) : Int) := by simp
      rw [h2, hzn]
      generalize (2 ^ qq : Nat) = z at *
      omega
    obtain ⟨y, hy⟩ : ∃ y : UInt8, y = (bs L)[pp] ^^^ z := ⟨_, rfl⟩
    have hxor : bits .xor .u8 ((bs L)[pp].toNat : Int) (z.toNat : Int) = (y.toNat : Int) := by
      rw [u8_xor_nat _ _ (bs L)[pp].toNat_lt z.toNat_lt, hy, UInt8.toNat_xor]
    have hback := convB_back (P := Tryz.prog) (w.alloc o).drew 107 9 5 w.heap.size cap' pp (bs L) y Tryz.underlying107 Tryz.underlying5 Tryz.underlying9 hps hcell
    have hbp : (bs L)[pp] = L[pp] := by show (bs L).data[pp] = _; simp [bs]
    have hly : (⟨((bs L).data.toList.set pp y).toArray⟩ : ByteArray) = bs (L.set pp y) := by rw [bs_list]; unfold bs; rfl
    rw [hly, bs_size] at hback
    replace hback : (convert 107 9 (.slice (some ⟨w.heap.size, 0, none⟩) L.length cap')).run Tryz.prog (((w.alloc o).setCell ⟨w.heap.size, pp, none⟩ (.int .u8 y.toNat)).drew.drew) = .ok (.string (bs (L.set pp y))) (((w.alloc o).setCell ⟨w.heap.size, pp, none⟩ (.int .u8 y.toNat)).drew.drew) := hback
    have hwz : IntKind.u8.wrap ((2 : Int) ^ qq) = (z.toNat : Int) := by rw [← hpw]; rfl
    have hfl : XS.flip L q = L.set pp y := by
      unfold XS.flip
      rw [← hm, ← hpp, ← hqq, List.getElem?_eq_getElem hpl, hy, hbp]
      congr 1
      show L[pp] ^^^ (1 <<< UInt8.ofNat qq) = L[pp] ^^^ z
      rw [hz]
      congr 1
      have : qq = 0 ∨ qq = 1 ∨ qq = 2 ∨ qq = 3 ∨ qq = 4 ∨ qq = 5 ∨ qq = 6 ∨ qq = 7 := by omega
      rcases this with h | h | h | h | h | h | h | h <;> subst h <;> decide
    rw [hfl]
    have HSET := Lib.hid (show x.net.set 0 (L.set pp y, true) = (L.set pp y, true) :: r by rw [hnet]; rfl)
    have HGL := Lib.hid (HX.out.rest.nt.lt g (by rw [hv]; rfl))
    have HV := Lib.hid hv
    clear h XT HO hnet hp0 hv hm hpp hqq hq256 hzn hz hy hbp hly hfl hcell hfr
    go_enter Tryz.func160, Tryz.ntmps160
    go_wp2_with fail
    have hwp : IntKind.i64.wrap (pp : Int) = (pp : Int) := IntWalk.i64_in _ (by omega)
    have htm : (m : Int).tmod 8 = (qq : Int) := by rw [Int.tmod_eq_emod_of_nonneg (by omega)]; exact e2
    have hwq : IntKind.i64.wrap (qq : Int) = (qq : Int) := IntWalk.i64_in _ (by omega)
    have hp1 : (0 : Int) ≤ pp := by omega
    have hp2 : (pp : Int) < L.length := by omega
    have hp3 : (pp : Int).toNat = pp := by omega
    have hq1 : (0 : Int) ≤ qq := by omega
    have hq3 : (qq : Int).toNat = qq := by omega
    have hc2 : (w.alloc o).drew.drew.cell? ⟨w.heap.size, pp, none⟩ = some (.int .u8 (bs L)[pp].toNat) := hc
    have hfz2 : (w.alloc o).drew.drew.frozen? ⟨w.heap.size, pp, none⟩ = false := hfz
    go_region_law (fail)
    have B8 := Lib.hid (((Below.refl w.heap.size w).alloc (Nat.le_refl _) o).setCell (p := ⟨w.heap.size, pp, none⟩) (Nat.le_refl _) (.int .u8 y.toNat)).drew.drew
    clear hc hfz hc2 hfz2 hwz hxor hpw hwp htm hwq hp1 hp2 hp3 hq1 hq3
    generalize (((w.alloc o).setCell ⟨w.heap.size, pp, none⟩ (.int .u8 y.toNat)).drew.drew) = w8 at *
    have X8 := Lib.hid (HX.out.below B8.out)
    have HO8 := X8.out.rest.nt
    rw [HV.out] at HO8
    have ST := Lib.hid (own2_store pk0 pk1 HO8 0 (L.set pp y, true))
    have fz80 := HO8.frozenAt 0
    have fz81 := HO8.frozenAt 1
    have d80 : w8.cell? ⟨g, 0, none⟩ = some (.string (bs L)) := (B8.out.cell (World.block_lt_of_cell? w _ d0)).trans d0
    have d81 : w8.cell? ⟨g, 1, none⟩ = some (.bool false) := (B8.out.cell (World.block_lt_of_cell? w _ d1)).trans d1
    simp only [Nat.zero_mul, Nat.zero_add] at ST
    have CH := Lib.hid (show Chg w8 ((w8.setCell ⟨g, 0, none⟩ (.string (bs (L.set pp y)))).setCell ⟨g, 1, none⟩ (.bool true)) (fun b => A.vn.ownBlock = some b) from
      ((Chg.refl w8 _).set ⟨g, 0, none⟩ (.inl (by rw [HV.out]; rfl)) _).set ⟨g, 1, none⟩ (.inl (by rw [HV.out]; rfl)) _)
    clear HO8 B8
    go_wp2_with fail
    go_returns
    refine ⟨rfl, A, X8.out.netSet (net' := (L.set pp y, true) :: r) CH.out ?_⟩
    have := ST.out
    rw [HV.out]
    rw [HSET.out] at this
    have e : ((L.set pp y, true) :: r).length = x.net.length := by rw [hlen]; rfl
    rw [e]
    exact this
end
end Go.Proofs.YtppkeophochgiaaGreatDoor
/- Contract of a transfer: Do. -/
namespace Go.Proofs.YtppkeophochgiaaGreatDoor
open Go.RowKit
set_option linter.unusedVariables false
theorem two_newsP {w : World} {b : Nat} {x y : Value} {t : TypeId} (h : w.heap[b]? = some (.cells #[x, y] t (0, 0))) : ∀ j u', [x, y][j]? = some u' → w.cell? ((⟨b, 0, none⟩ : Addr).add j) = some u' := by
  intro j u hj
  match j, hj with
  | 0, hj => simp at hj; subst hj; simp [World.cell?, h, Addr.add]
  | 1, hj => simp at hj; subst hj; simp [World.cell?, h, Addr.add]
section
variable {E : Nat → Addr} {w0 w : World} {xb : Nat} {A : XA} {x : XS} {t0 : List PF}
theorem act_6 {v : Nat} (h : v % 8 = 6) : x.act (v : Int) = x.tick := by
  unfold XS.act
  rw [if_neg (by omega)]
  simp only [Int.toNat_natCast]
  rw [if_pos h]
theorem act_7 {v : Nat} (h : v % 8 = 7) : x.act (v : Int) = x.begins := by
  unfold XS.act
  rw [if_neg (by omega)]
  simp only [Int.toNat_natCast]
  rw [if_neg (by omega), if_pos h]
theorem act_none {v : Nat} (h6 : v % 8 ≠ 6) (h7 : v % 8 ≠ 7) (hn : x.net = []) : x.act (v : Int) = x := by
  unfold XS.act
  rw [if_neg (by omega)]
  simp only [Int.toNat_natCast]
  rw [if_neg h6, if_neg h7, if_pos hn]
theorem act_come {v : Nat} (h : v % 8 < 3) (hn : x.net ≠ []) : x.act (v : Int) = x.come (v / 8 % x.net.length) := by
  unfold XS.act
  rw [if_neg (by omega)]
  simp only [Int.toNat_natCast]
  rw [if_neg (by omega), if_neg (by omega), if_neg hn, if_pos h]
theorem act_lose {v : Nat} (h : v % 8 = 3) (hn : x.net ≠ []) : x.act (v : Int) = { x with net := x.net.eraseIdx (v / 8 % x.net.length) } := by
  unfold XS.act
  rw [if_neg (by omega)]
  simp only [Int.toNat_natCast]
  rw [if_neg (by omega), if_neg (by omega), if_neg hn, if_neg (by omega), if_pos h]
theorem act_twice {v : Nat} (h : v % 8 = 4) (hn : x.net ≠ []) : x.act (v : Int) = if hl : x.net.length < 500 then { x with net := x.net ++ [x.net[v / 8 % x.net.length]'(Nat.mod_lt _ (List.length_pos_iff.2 hn))] } else x := by
  unfold XS.act
  rw [if_neg (by omega)]
  simp only [Int.toNat_natCast]
  rw [if_neg (by omega), if_neg (by omega), if_neg hn, if_neg (by omega), if_neg (by omega), if_pos h]
  have hlt : v / 8 % x.net.length < x.net.length := Nat.mod_lt _ (List.length_pos_iff.2 hn)
  by_cases hl : x.net.length < 500
  · rw [if_pos hl, dif_pos hl, List.getElem?_eq_getElem hlt]
    rfl
  · rw [if_neg hl, dif_neg hl]
theorem act_turn {v : Nat} (h : v % 8 = 5) (hn : x.net ≠ []) : x.act (v : Int) = x.turn (v / 8) := by
  unfold XS.act
  rw [if_neg (by omega)]
  simp only [Int.toNat_natCast]
  rw [if_neg (by omega), if_neg (by omega), if_neg hn, if_neg (by omega), if_neg (by omega), if_neg (by omega)]
theorem act_neg {v : Int} (h : v < 0) : x.act v = x := by unfold XS.act; rw [if_pos h]
set_option maxRecDepth 100000 in
set_option maxHeartbeats 6400000 in
theorem xbegun_any (h : XAt w0 w xb A x) (hd : x.dn = true) :
    Calls Tryz.prog 156 #[.pointer (some ⟨xb, 0, none⟩)] w fun e w' => e = .returned (.tuple #[]) ∧ ∃ A', XAt w0 w' xb A' x.begins := by
  have HX := Lib.hid h
  have e : x.begins = x := by unfold XS.begins; rw [if_pos hd]
  have c15 := h.cells.cs.2.2.2.2.2.2.2.2.2.2.2.2.2.2.2
  rw [hd] at c15
  rw [e]
  clear h hd e
  go_enter Tryz.func156, Tryz.ntmps156
  go_wp2_with fail
  go_returns
  exact ⟨rfl, A, HX.out⟩
set_option maxRecDepth 100000 in
set_option maxHeartbeats 12800000 in
theorem xdo_any (v : Int) (hv : -9223372036854775808 ≤ v ∧ v < 9223372036854775808) (hI : XInv t0 x) (h : XAt w0 w xb A x) (hn : x.net.length ≤ 100000000) (hg : x.ge < 1000000) (hpl : ∀ p ∈ x.net, 0 < p.1.length ∧ p.1.length ≤ 100000) (CM : ComeOk w0 xb t0) (h2 : Has E w0 2) (h4 : Has E w0 4) (h5 : Has E w0 5) (h8 : Has E w0 8) :
    Calls Tryz.prog 115 #[.pointer (some ⟨xb, 0, none⟩), .int .i64 v] w fun e w' => e = .returned (.tuple #[]) ∧ ∃ A', XAt w0 w' xb A' (x.act v) := by
  have HX := Lib.hid h
  by_cases hv0 : v < 0
  · rw [act_neg hv0]
    have hvI : decide (v < 0) = true := by simpa using hv0
    clear h hI CM h2 h4 h5 h8 hpl hv hn hg
    go_enter Tryz.func115, Tryz.ntmps115
    go_wp2_with fail
    go_returns
    exact ⟨rfl, A, HX.out⟩
  · obtain ⟨m, rfl⟩ : ∃ m : Nat, v = m := ⟨v.toNat, by omega⟩
    have hvI : decide ((m : Int) < 0) = false := by simp
    obtain ⟨kk, hkk⟩ : ∃ kk, m % 8 = kk := ⟨_, rfl⟩
    obtain ⟨q, hq⟩ : ∃ q, m / 8 = q := ⟨_, rfl⟩
    have hk8 : kk < 8 := by omega
    have hq62 : q ≤ 1152921504606846976 := by omega
    have k1 : (m : Int) % 8 = (kk : Int) := by omega
    have k2 : (m : Int).tmod 8 = (kk : Int) := by rw [Int.tmod_eq_emod_of_nonneg (by omega)]; exact k1
    have k3 : IntKind.i64.wrap (kk : Int) = (kk : Int) := IntWalk.i64_in _ (by omega)
    have q1 : (m : Int) / 8 = (q : Int) := by omega
    have q2 : (m : Int).tdiv 8 = (q : Int) := by rw [Int.tdiv_eq_ediv_of_nonneg (by omega)]; exact q1
    have q3 : IntKind.i64.wrap (q : Int) = (q : Int) := IntWalk.i64_in _ (by omega)
    have c3 := h.cells.cs.2.2.2.1
    obtain ⟨va, vc, hvv⟩ := owns_slice h.rest.nt
    rw [hvv] at c3
    by_cases h6 : kk = 6
    · subst h6
      have T := Lib.hid (xtick_any (E := E) h hI.flow (by have := hI.age.1; omega) (by omega) h2 h4)
      rw [act_6 hkk]
      clear h hI CM h2 h4 h5 h8 hpl hv hn hg hq62 hkk hq hv0 q1 q2 q3 hk8 hvv c3
      go_enter Tryz.func115, Tryz.ntmps115
      go_wp2_with fail
      refine T.out.mono ?_
      rintro e w9 ⟨rfl, A9, hA⟩
      have HA := Lib.hid hA
      clear hA T
      go_wp2_with fail
      go_returns
      exact ⟨rfl, A9, HA.out⟩
    by_cases h7 : kk = 7
    · subst h7
      have T := Lib.hid (show Calls Tryz.prog 156 #[.pointer (some ⟨xb, 0, none⟩)] w fun e w' => e = .returned (.tuple #[]) ∧ ∃ A', XAt w0 w' xb A' x.begins by
        by_cases hd : x.dn = true
        · exact xbegun_any h hd
        · exact xbegin_any h.pre (by simpa using hd) hg (by omega) h2 h4 h5 h8)
      rw [act_7 hkk]
      clear h hI CM h2 h4 h5 h8 hpl hv hn hg hq62 hkk hq hv0 q1 q2 q3 hk8 hvv c3
      go_enter Tryz.func115, Tryz.ntmps115
      go_wp2_with fail
      refine T.out.mono ?_
      rintro e w9 ⟨rfl, A9, hA⟩
      have HA := Lib.hid hA
      clear hA T
      go_wp2_with fail
      go_returns
      exact ⟨rfl, A9, HA.out⟩
    have h6b : ((kk : Int) == 6) = false := by rw [beq_eq_false_iff_ne]; omega
    have h7b : ((kk : Int) == 7) = false := by rw [beq_eq_false_iff_ne]; omega
    have n6 : m % 8 ≠ 6 := by omega
    have n7 : m % 8 ≠ 7 := by omega
    by_cases hnet : x.net = []
    · rw [act_none n6 n7 hnet]
      rw [hnet] at c3
      generalize (kk : Int) = kI at *
      clear h hI CM h2 h4 h5 h8 hpl hv hn hg hq62 hkk hq hv0 hk8 hvv n6 n7 hnet h6 h7
      go_enter Tryz.func115, Tryz.ntmps115
      go_wp2_with fail
      go_returns
      exact ⟨rfl, A, HX.out⟩
    have hpos : 0 < x.net.length := List.length_pos_iff.2 hnet
    obtain ⟨L, hL⟩ : ∃ L, x.net.length = L := ⟨_, rfl⟩
    obtain ⟨r, hr⟩ : ∃ r, q % L = r := ⟨_, rfl⟩
    have hrL : r < L := by rw [← hr]; exact Nat.mod_lt _ (by omega)
    have r1 : (q : Int) % (L : Int) = (r : Int) := by rw [← hr]; simp
    have r2 : (q : Int).tmod (L : Int) = (r : Int) := by rw [Int.tmod_eq_emod_of_nonneg (by omega)]; exact r1
    have r3 : IntKind.i64.wrap (r : Int) = (r : Int) := IntWalk.i64_in _ (by omega)
    have L0 : ((L : Int) == 0) = false := by rw [beq_eq_false_iff_ne]; omega
    have hMM := hL
    have Ln : ¬ L = 0 := by omega
    rw [hL] at c3
    by_cases h3 : kk < 3
    · have h3I : decide ((kk : Int) < 3) = true := by simp; omega
      have C := Lib.hid (CM x r w A hI h (by omega) (by omega))
      have AC := Lib.hid (act_come (x := x) (v := m) (by omega) hnet)
      rw [hq, hL, hr] at AC
      rw [AC.out]
      generalize (kk : Int) = kI at *
      have hLI : (0 : Int) < L := by omega
      have hne : ((L : Int) == 0) = false := L0
      clear h hI CM h2 h4 h5 h8 hpl hv hn hg hq62 hkk hq hv0 hk8 hvv n6 n7 hnet h6 h7 h3 hr hrL hpos hL hMM AC
      go_enter Tryz.func115, Tryz.ntmps115
      go_wp2_with fail
      refine C.out.mono ?_
      rintro e w9 ⟨rfl, A9, hA⟩
      have HA := Lib.hid hA
      clear hA C
      go_wp2_with fail
      go_returns
      exact ⟨rfl, A9, HA.out⟩
    have h3I : decide ((kk : Int) < 3) = false := by simp; omega
    by_cases h4' : kk = 3
    · subst h4'
      obtain ⟨g, cap, hv2, hc1, hc2⟩ := own_is h.rest.nt (by omega)
      rw [hvv] at hv2
      have X1 := Lib.hid h.drew
      have D := xdel_any x.net w0.heap.size r A.vn w.drew (h.drew.rest.nt) (by omega) (by omega)
      rw [hvv, hL] at D
      have D := Lib.hid D
      have HV := Lib.hid hvv
      rw [hL] at HV
      have AC := Lib.hid (act_lose (x := x) (v := m) hkk hnet)
      rw [hq, hL, hr] at AC
      rw [AC.out]
      have r4 : IntKind.i64.wrap ((r : Int) + 1) = (r : Int) + 1 := IntWalk.i64_in _ (by omega)
      clear h hI CM h2 h4 h5 h8 hpl hv hn hg hq62 hkk hq hv0 hk8 hvv n6 n7 hnet h6 h7 h3 hr hrL hpos hL hMM AC hv2 hc1 hc2
      go_enter Tryz.func115, Tryz.ntmps115
      go_wp2_with fail
      go_region_law (go_simp; go_at_call 159; refine D.out.mono ?_; rintro e w8 ⟨r8, rfl, o8, g8⟩; rw [← HV.out] at g8; have NC := X1.out.netCell g8; have cx8 := NC.2; have fx8 := NC.1; have G8 := Lib.hid g8; have O8 := Lib.hid o8; obtain ⟨va8, vc8, rfl⟩ := owns_slice o8; clear g8 o8 NC)
      all_goals
        go_wp2_with fail
        go_returns
        exact ⟨rfl, _, X1.out.netTo G8.out O8.out⟩
    by_cases h5' : kk = 4
    · subst h5'
      have AC := Lib.hid (act_twice (x := x) (v := m) hkk hnet)
      by_cases h500 : x.net.length < 500
      · have h500I : (L : Int) < 500 := by omega
        have hpr : ∃ p, x.act (m : Int) = { x with net := x.net ++ [p] } ∧ ∃ hrr : r < x.net.length, x.net[r]'hrr = p := by
          refine ⟨x.net[r]'(by omega), ?_, by omega, rfl⟩
          rw [AC.out, dif_pos h500]
          congr 1
          congr 1
          congr 1
          subst hL hr hq
          rfl
        obtain ⟨p, hact, hrr, hpe⟩ := hpr
        rw [hact]
        obtain ⟨g, cap, hv2, hc1, hc2⟩ := own_is h.rest.nt (by omega)
        have HO := h.rest.nt
        rw [hv2] at HO
        have d0 := HO.cellAt (r * 2) (by omega)
        have d1 := HO.cellAt (r * 2 + 1) (by omega)
        rw [(pcells_get x.net r hrr).1, hpe] at d0
        rw [(pcells_get x.net r hrr).2, hpe] at d1
        have c3 := h.cells.cs.2.2.2.1
        rw [hv2, hL] at c3
        have HV := Lib.hid hv2
        have HO := Lib.hid HO
        have HLL := Lib.hid hL
        obtain ⟨i0, hi, hs0, hs1, hs2⟩ := info_parts infoPk
        have HN1 : Hid (x.net.length + 1 ≤ maxLen) := by show _ ≤ _; unfold maxLen; omega
        have HN2 : Hid ((x.net.length + 1) * 24 ≤ 140737488355328) := by show _ ≤ _; omega
        have HS := Lib.hid h.rest.bel.size
        have hrI : (r : Int) < L := by omega
        have hr0 : (0 : Int) ≤ r := by omega
        have hrn : (r : Int).toNat = r := by omega
        have hcl : L ≤ cap := by omega
        have e0 : w.drew.cell? ⟨g, r * 2, none⟩ = some (.string (bs p.1)) := d0
        have e1 : w.drew.cell? ⟨g, r * 2 + 1, none⟩ = some (.bool p.2) := d1
        have e3 : w.drew.cell? ⟨xb, 3, none⟩ = some (.slice (some ⟨g, 0, none⟩) L cap) := c3
        have e4 : (w.alloc (.cells #[.string (bs p.1), .bool p.2] 255)).cell? ⟨xb, 3, none⟩ = some (.slice (some ⟨g, 0, none⟩) L cap) := ((wb_alloc w _).cell (World.block_lt_of_cell? w _ c3)).trans c3
        clear h hI CM h2 h4 h5 h8 hpl hv hn hg hq62 hkk hq hv0 hk8 hvv n6 n7 hnet h6 h7 h3 hr hrL hpos hL hMM AC hv2 hc1 hc2 h500 hact hpe hrr
        go_enter Tryz.func115, Tryz.ntmps115
        go_wp2_with fail
        go_region_law (refine step_append_own rfl (.tmp 82) (.tmp 96) 246 rfl w0.heap.size 255 i0 _ 2 24 Tryz.underlying246 hi hs0 hs1 hs2 rfl (by decide) (.slice (some ⟨g, 0, none⟩) L cap) L _ rfl (by have := HO.out; rw [HLL.out] at this; exact (this.alloc _).drew) ⟨w.heap.size, 0, none⟩ 1 1 [.string (bs p.1), .bool p.2] rfl rfl (two_newsP (heap_alloc_new _ _)) (fun u hu => by simp at hu; rcases hu with rfl | rfl <;> rfl) (by have := HN1.out; rw [HLL.out] at this; exact this) (by have := HN2.out; rw [HLL.out] at this; exact this) (by have := HS.out; simp; omega) ?_; intro v' w5 hown5 hgrow _; have hgrow := grown_undrew hgrow; have gc := HX.out.grow_cell (by rw [HV.out, HLL.out]; exact hgrow); have f5 := gc.1; have k5 := gc.2; have HO5 := Lib.hid hown5; have HG5 := Lib.hid hgrow; obtain ⟨vb, vd, rfl⟩ := owns_slice hown5; clear hown5 hgrow gc)
        all_goals
          go_wp2_with fail
          go_returns
          refine ⟨rfl, _, HX.out.grow (net' := x.net ++ [p]) (by rw [HV.out, HLL.out]; exact HG5.out) ?_⟩
          rw [pcells_append, List.length_append, HLL.out]
          exact HO5.out
      · have h500I : ¬ (L : Int) < 500 := by omega
        rw [AC.out, dif_neg h500]
        clear h hI CM h2 h4 h5 h8 hpl hv hn hg hq62 hkk hq hv0 hk8 hvv n6 n7 hnet h6 h7 h3 hr hrL hpos hL hMM AC h500
        go_enter Tryz.func115, Tryz.ntmps115
        go_wp2_with fail
        go_returns
        exact ⟨rfl, A, HX.out⟩
    · have hk5 : kk = 5 := by omega
      subst hk5
      obtain ⟨p, rr, hpr⟩ : ∃ p rr, x.net = p :: rr := by
        cases e : x.net with
        | nil => exact absurd e hnet
        | cons p rr => exact ⟨p, rr, rfl⟩
      have hpp := hpl p (by rw [hpr]; simp)
      have C := Lib.hid (xturn_any q h hq62 p rr hpr (by omega) hpp.1 hpp.2)
      have AC := Lib.hid (act_turn (x := x) (v := m) hkk hnet)
      rw [hq] at AC
      rw [AC.out]
      have hne : ((L : Int) == 0) = false := L0
      clear h hI CM h2 h4 h5 h8 hpl hv hn hg hq62 hkk hq hv0 hk8 hvv n6 n7 hnet h6 h7 h3 hr hrL hpos hL hMM AC hpr hpp h6b h7b h3I h4' h5' r1 r2 r3
      go_enter Tryz.func115, Tryz.ntmps115
      go_wp2_with fail
      refine C.out.mono ?_
      rintro e w9 ⟨rfl, A9, hA⟩
      have HA := Lib.hid hA
      clear hA C
      go_wp2_with fail
      go_returns
      exact ⟨rfl, A9, HA.out⟩
end
end Go.Proofs.YtppkeophochgiaaGreatDoor
/- The cells of a struct of four. -/
namespace Go.Proofs.YtppkeophochgiaaGreatDoor
open Go.RowKit
theorem cells4x {v : World} {g : Nat} {x0 x1 x2 x3 : Value} {t : TypeId} (h : v.heap[g]? = some (.cells #[x0, x1, x2, x3] t (0, 0))) :
    (v.cell? ⟨g, 0, none⟩ = some x0 ∧ v.cell? ⟨g, 1, none⟩ = some x1 ∧ v.cell? ⟨g, 2, none⟩ = some x2 ∧ v.cell? ⟨g, 3, none⟩ = some x3) ∧ ∀ k, v.frozen? ⟨g, k, none⟩ = false := by
  refine ⟨⟨?_, ?_, ?_, ?_⟩, fun k => ?_⟩ <;> simp [World.cell?, World.frozen?, h]
end Go.Proofs.YtppkeophochgiaaGreatDoor
/- Contract of a transfer: the source's answer to a request for lines. -/
namespace Go.Proofs.YtppkeophochgiaaGreatDoor
open Go.RowKit
set_option linter.unusedVariables false
section
variable {E : Nat → Addr} {w0 w : World} {xb : Nat} {A : XA} {x : XS}
set_option maxRecDepth 100000 in
set_option maxHeartbeats 6400000 in
theorem xansl_any (fe fq : Int) (d : List UInt8) (h : XAt w0 w xb A x) (hfr : FWF x.fr) (hn : x.net.length ≤ 1000000000) (hS : ∀ b ∈ x.fr.map PF.line, b.S < 4294967296) (h2 : Has E w0 2) (h4 : Has E w0 4) (h5 : Has E w0 5) (h8 : Has E w0 8) (h9 : Has E w0 9) :
    Calls Tryz.prog 194 #[.pointer (some ⟨xb, 0, none⟩), .agg #[.int .u8 108, .int .i64 fe, .int .i64 fq, .string (bs d)]] w fun e w' => e = .returned (.tuple #[]) ∧ ∃ A', XAt w0 w' xb A' (x.put ⟨109, fe, fq, flText (x.fr.map PF.line)⟩) := by
  have HX := Lib.hid h
  have HS := Lib.hid (fun (c : Nat) (w' : World) (b : Below w.heap.size w w') (hh : Has E w0 c) => hh.below (below_trans' h.rest.bel b))
  have LI := Lib.hid (fun (w' : World) (b : Below w.heap.size w w') => fllist_yes E x.fr A.vf w' ((SliceIs.ownedK h.rest.fr).below b) hfr.okx (HS.out 2 w' b h2) (HS.out 5 w' b h5) (HS.out 8 w' b h8) (HS.out 9 w' b h9) hfr)
  have TX := Lib.hid (fun (w' : World) (b : Below w.heap.size w w') (v : Value) (hv : SliceIs w' v 3 (lcells (x.fr.map PF.line))) => fltext_yes E (x.fr.map PF.line) v w' hv hS (HS.out 2 w' b h2) (HS.out 5 w' b h5) (HS.out 8 w' b h8) (HS.out 9 w' b h9) hfr.lines)
  have PT := Lib.hid (fun (w' : World) (b : Below w.heap.size w w') => xput_any (E := E) ⟨109, fe, fq, flText (x.fr.map PF.line)⟩ (h.below b) hn (HS.out 2 w' b h2) (HS.out 4 w' b h4))
  simp only [PFr.val_is] at PT
  rw [show (((109 : UInt8).toNat : Nat) : Int) = 109 from rfl] at PT
  obtain ⟨r, hr⟩ : ∃ r, XS.put ⟨109, fe, fq, flText (x.fr.map PF.line)⟩ x = r := ⟨_, rfl⟩
  rw [hr] at PT ⊢
  generalize flText (x.fr.map PF.line) = tx at *
  have B1 := Lib.hid (wb_alloc w (.cells #[.int .u8 108, .int .i64 fe, .int .i64 fq, .string (bs d)] 248))
  have B2 := Lib.hid (B1.out.alloc B1.out.size (.cells #[.int .u8 109, .int .i64 fe, .int .i64 fq, .string ⟨#[]⟩] 248))
  have CF := Lib.hid (fun (w' : World) (b : Below w.heap.size w w') => (h.below b).cells.cs.1)
  have c0 := CF.out _ B2.out
  have HXB := Lib.hid (lt_of_block h.cells)
  have NB := Lib.hid (heap_alloc_new (w.alloc (.cells #[.int .u8 108, .int .i64 fe, .int .i64 fq, .string (bs d)] 248)) (.cells #[.int .u8 109, .int .i64 fe, .int .i64 fq, .string ⟨#[]⟩] 248))
  clear h hfr hn hS h2 h4 h5 h8 h9 HS hr
  go_enter Tryz.func194, Tryz.ntmps194
  go_wp2_with fail
  have LI2 := Lib.hid (LI.out _ B2.out)
  have hsz2 : ((w.alloc (.cells #[.int .u8 108, .int .i64 fe, .int .i64 fq, .string (bs d)] 248)).alloc (.cells #[.int .u8 109, .int .i64 fe, .int .i64 fq, .string ⟨#[]⟩] 248)).heap.size = w.heap.size + 2 := by simp
  have NB2 : ((w.alloc (.cells #[.int .u8 108, .int .i64 fe, .int .i64 fq, .string (bs d)] 248)).alloc (.cells #[.int .u8 109, .int .i64 fe, .int .i64 fq, .string ⟨#[]⟩] 248)).heap[w.heap.size + 1]? = some (.cells #[.int .u8 109, .int .i64 fe, .int .i64 fq, .string ⟨#[]⟩] 248) := by
    have := NB.out
    rw [show (w.alloc (.cells #[.int .u8 108, .int .i64 fe, .int .i64 fq, .string (bs d)] 248)).heap.size = w.heap.size + 1 by simp] at this
    exact this
  generalize (w.alloc (.cells #[.int .u8 108, .int .i64 fe, .int .i64 fq, .string (bs d)] 248)).alloc (.cells #[.int .u8 109, .int .i64 fe, .int .i64 fq, .string ⟨#[]⟩] 248) = wa at *
  have NB2 := Lib.hid NB2
  have HSZ := Lib.hid hsz2
  clear LI c0 NB CF hsz2
  refine LI2.out.mono ?_
  rintro e w1 ⟨r1, rfl, o1, b1⟩
  have B3 := Lib.hid (below_trans' B2.out b1)
  have TX3 := Lib.hid (TX.out _ B3.out _ (SliceIs.ownedK o1))
  have NB3 := Lib.hid ((b1.block _ (by have := HSZ.out; omega)).trans NB2.out)
  have hs3 : w.heap.size + 2 ≤ w1.heap.size := by have := HSZ.out; have := b1.size; omega
  clear o1 b1 LI2 TX NB2 B2 B1
  go_wp2_with fail
  refine TX3.out.mono ?_
  rintro e w2 ⟨rfl, b2⟩
  have NB4 := (b2.block _ (by omega)).trans NB3.out
  have B4 := Lib.hid (below_trans' B3.out b2)
  obtain ⟨⟨d0, d1, d2, d3⟩, _⟩ := cells4x NB4
  have q3 : w2.frozen? ⟨w.heap.size + 1, 3, none⟩ = false := by simp [World.frozen?, NB4]
  have B5 := Lib.hid (Below.setCell B4.out (p := ⟨w.heap.size + 1, 3, none⟩) (by show w.heap.size ≤ w.heap.size + 1; omega) (.string (bs tx)))
  have PT5 := Lib.hid (PT.out _ B5.out)
  clear b2 NB4 NB3 B3 TX3 PT B4 B5
  go_wp2_with fail
  refine PT5.out.mono ?_
  rintro e w3 ⟨rfl, A', hA⟩
  have HA := Lib.hid hA
  clear hA PT5
  go_wp2_with fail
  go_returns
  exact ⟨rfl, A', HA.out⟩
end
end Go.Proofs.YtppkeophochgiaaGreatDoor
