/- Contract of a gate's Text. -/
import Derived.Test.YtkjcclbnbbbfaaaGreatDoorGate
import Derived.Test.YtkjcclbnbbbfaaaGreatDoorGateRdP
import Derived.Test.YtkjcclbnbbbfaaaGreatDoorKeysIn
import Derived.Test.YtkjcclbnbbbfaaaGreatDoorShelfG
import Derived.Test.YtkjcclbnbbbfaaaGreatDoorLibW
import Derived.Test.YtkjcclbnbbbfaaaGreatDoorAids
import Derived.RangeFuncNested
import Derived.RangeFuncBound
import Derived.RangeFuncCalls
import Derived.RangeFuncLeaves
import Derived.RangeFuncWrites
import Derived.RangeFuncBox
import Derived.Shelf.Abstract
import Derived.Shelf.RegionOpen
import Derived.WalkKit
import Derived.OwnWalkIn
import Derived.TacticsInMore
import Derived.LoopNIn
import Derived.LoopIn
import Derived.Maps.AppendAt
import Derived.Maps.OwnIn
import Derived.Sort.OwnSorted
import Derived.RegionIn
import Derived.Test.YtkjcclbnbbbfaaaGreatDoorRoundLone
import Derived.Deep.RegionHeld3
namespace Go.Proofs.YtkjcclbnbbbfaaaGreatDoor
open Go.RowKit Go.Shelf Go.Maps Go.Sort
set_option linter.unusedVariables false
set_option linter.unusedSimpArgs false

attribute [local go_sem] Oper.semAt_some
theorem gkeys_stops {H : Type} (F : Fence) (n : Nat) (hf : F.fn 81) (hro : F.round = none) (hn : 1 ≤ n) (Bm b nn : Nat) (D0 : DataW H) {R : Value → Option (DataW H × List MemPlace)} (w : World) (hBm : Bm < w.heap.size)
    (hm : w.cell? ⟨Bm, 0, none⟩ = some (.map (some b))) (hown : w.ownsMap Tryz.prog 9 R b nn D0) :
    SeqStopsK F n Tryz.prog 81 #[.pointer (some ⟨Bm, 0, none⟩)] (fun x : KeyIn D0 => #[encStr x.1]) KeepsWalks (fun ss => (ss.map (·.1)).Perm (strKeys D0)) (fun _ => True) (Maps.size D0) w :=
  keysIn_stops (ρ := Tryz.laysK_ren) { Tryz.laysK with } F n hf hro hn Bm b nn D0 w hBm hm hown
/-- the names that came, as lines -/
def lnsK {H : Type} {D : DataW H} (m : GM) (ks : List (KeyIn D)) : List (List UInt8) := ks.map fun x => lineG (x.1, glk m x.1)
theorem lnsK_snoc {H : Type} {D : DataW H} (m : GM) (ks : List (KeyIn D)) (x : KeyIn D) : lnsK m (ks ++ [x]) = lnsK m ks ++ [lineG (x.1, glk m x.1)] := by unfold lnsK; simp
theorem names_perm {w : World} {b n : Nat} {m : GM} {D : DataW Unit} (hown : w.ownsMap Tryz.prog 9 (plainElem Tryz.prog 3) b n D) (hh : ∀ k : List UInt8, has D (.string k) = ghas m k) (hm : (m.map Prod.fst).Nodup) {ks : List (KeyIn D)} (hp : (ks.map (·.1)).Perm (strKeys D)) : (ks.map (·.1)).Perm (m.map Prod.fst) := by
  have h : Collected D (fun _ => false) (m.map Prod.fst) := ⟨hm, fun x => by rw [hh x, ghas_mem]; simp⟩
  exact hp.trans (h.perm hown gkeyed Tryz.underlying9 (fun _ => rfl)).symm
theorem lnsK_perm {m : GM} {H : Type} {D : DataW H} {ks : List (KeyIn D)} (hm : (m.map Prod.fst).Nodup) (hp : (ks.map (·.1)).Perm (m.map Prod.fst)) : (lnsK m ks).Perm (m.map lineG) := by
  have e1 : lnsK m ks = (ks.map (·.1)).map fun k => lineG (k, glk m k) := by unfold lnsK; rw [List.map_map]; rfl
  have e2 : m.map lineG = (m.map Prod.fst).map fun k => lineG (k, glk m k) := by
    rw [List.map_map]
    refine List.map_congr_left fun p hp => ?_
    simp only [Function.comp]
    rw [glk_mem hm hp]
  rw [e1, e2]
  exact hp.map _
theorem lnsK_sorted {m l : GM} {H : Type} {D : DataW H} {ks : List (KeyIn D)} (hp : (ks.map (·.1)).Perm (m.map Prod.fst)) (hl : m.Perm l) (h : GWF l) : (lnsK m ks).mergeSort leB = l.map lineG := by
  rw [mergeSort_of_perm (lnsK_perm (perm_nodup hl h.srt.nodup) hp)]
  exact sorted_lines hl h
theorem gk_fine {m l : GM} (hl : m.Perm l) (hwf : GWF l) {k : List UInt8} (hk : ghas m k = true) : k.length ≤ 12 ∧ glk m k ≤ 2147483648 := by
  obtain ⟨p, hpm, hpx⟩ := List.mem_map.1 ((ghas_mem m k).1 hk)
  have hep := hwf.ep p (hl.mem_iff.1 hpm)
  refine ⟨by rw [← hpx]; exact ((nameB_iff _).1 (hwf.nm p (hl.mem_iff.1 hpm))).2.1, ?_⟩
  rw [← hpx, glk_mem (perm_nodup hl hwf.srt.nodup) hpm]
  exact hep.2
theorem encStr_bs (x : List UInt8) : encStr x = .string (bs x) := by unfold encStr bs; rfl
theorem below_put {n : Nat} {a b : World} (h : Below n a b) {D : Nat} (hD : n ≤ D) (o' : Obj) : Below n a (b.putObj D o') :=
  ⟨h.os, h.tape, h.output, by rw [show (b.putObj D o').heap.size = b.heap.size by simp [World.putObj]]; exact h.size, fun k hk => (World.putObj_heap_other (by omega)).trans (h.block k hk)⟩
theorem lineG_len {p : List UInt8 × Nat} (h1 : p.1.length ≤ 12) (h2 : p.2 ≤ 2147483648) : (lineG p).length ≤ 30 := by
  unfold lineG
  have := dec_len_le (n := p.2) (k := 9) (by omega)
  simp; omega
theorem gtext_le {l : GM} (h : GWF l) : (gtext l).length ≤ 600 := by
  have hg : ∀ (l : GM), (∀ p ∈ l, p.1.length ≤ 12 ∧ p.2 ≤ 2147483648) → (gtext l).length ≤ 30 * l.length := by
    intro l
    induction l with
    | nil => intro _; simp [gtext]
    | cons p l ih =>
      intro hl
      have h1 := hl p (by simp)
      have h2 := ih (fun q hq => hl q (by simp [hq]))
      have h3 := lineG_len h1.1 h1.2
      unfold gtext at h2 ⊢
      rw [List.flatMap_cons, List.length_append, List.length_cons]
      omega
  have h1 := hg l (fun p hp => ⟨((nameB_iff _).1 (h.nm p hp)).2.1, (h.ep p hp).2⟩)
  have := h.few
  omega
theorem join_flat (l : List (List UInt8)) : Lib.join l [] = l.flatten := by
  unfold Lib.join
  induction l with
  | nil => rfl
  | cons x l ih => cases l with
    | nil => simp [List.intercalate]
    | cons y l =>
      have := ih
      simp [List.intercalate] at this ⊢
      exact this
/-- append, kept whole -/
def apS (ats : Array TypeId) (ty : TypeId) (args : Array Value) : Sem Value := Builtin.append_ ats ty args
theorem apS_fold (ats : Array TypeId) (ty : TypeId) (args : Array Value) : Builtin.append_ ats ty args = apS ats ty args := rfl
/-- a text is put behind a row of texts -/
theorem app_one (w : World) (base k : Nat) (v : Value) (xs : List Value) (S : ByteArray) (hown : w.ownsRow base 9 1 v k xs) (hb : k + 1 ≤ maxLen ∧ (k + 1) * 16 ≤ 140737488355328) (hbase : base ≤ w.heap.size) :
    ∃ v' w3, (apS #[48, 48] 48 #[v, .slice (some ⟨w.heap.size, 0, none⟩) 1 1]).run Tryz.prog (w.alloc (.cells #[.string S] 9)) = .ok v' w3 ∧ w3.ownsRow base 9 1 v' (k + 1) (xs ++ [.string S]) ∧ (w.alloc (.cells #[.string S] 9)).grownBy w3 v.ownBlock := by
  obtain ⟨i0, hi, hi0, hi1, hi2⟩ := info_parts infoStr
  obtain ⟨v', w3, h1, h2, h3, _⟩ := run_append_own (P := Tryz.prog) (w := w.alloc (.cells #[.string S] 9)) base 48 48 9 i0 (.string ⟨#[]⟩) 1 16 Tryz.underlying48 hi hi0 hi1 hi2 rfl (by decide) v k xs (hown.alloc _) ⟨w.heap.size, 0, none⟩ 1 1 [.string S] rfl (cell_one_new w (.string S) 9) (by simp [Value.oneCell']) hb.1 hb.2 (by simp; omega)
  exact ⟨v', w3, h1, h2, h3⟩
attribute [local irreducible] apS
attribute [local go_sem ↓] apS_fold
set_option maxRecDepth 100000 in
set_option maxHeartbeats 6400000 in
theorem gtext_any (E : Nat → Addr) (gb mb nn : Nat) (m l : GM) (w : World) (h : GtAt w gb mb nn m) (hw : LibW E w) (hl : m.Perm l) (hwf : GWF l) :
    Calls Tryz.prog 28 #[.pointer (some ⟨gb, 0, none⟩)] w fun e w' => e = .returned (.string (bs (gtext l))) ∧ Below w.heap.size w w' := by
  refine (callsIn_wide (n := 6)).1 ?_
  obtain ⟨D, hown, hD, hsz⟩ := h.map
  have hc0 := h.c0
  have hgl := lt_of_block h.cells
  obtain ⟨i0, hi, hi0, hi1, hi2⟩ := info_parts infoStr
  refine callsIn_of_wp_marks Tryz.func28 rfl trivial ?_ rfl
  simp only [Tryz.ntmps28, List.size_toArray, List.length_cons, List.length_nil, Nat.reduceAdd, Nat.reduceSub, Array.replicate_succ, Array.replicate_zero, List.push_toArray, List.append_toArray, List.nil_append, List.cons_append]
  have hfK : Fence.wide.fn 51 := trivial
  have hx0 : ((w.alloc (.cells #[.pointer (some ⟨gb, 0, none⟩)] 49)).alloc (.cells #[.slice none 0 0] 48)).cell? ⟨gb, 0, none⟩ = some (.map (some mb)) :=
    ((h.below (wb_alloc w _)).below (wb_alloc _ _)).c0
  gi_wp2_with (gi_at_call 51; refine (Tryz.maps_Keys _ _).mono ?_; rintro e w' ⟨rfl, rfl⟩)
  have g1 := h.below (wb_alloc w (.cells #[.pointer (some ⟨gb, 0, none⟩)] 49))
  have bg := Boxed.new w 49 (.pointer (some ⟨gb, 0, none⟩))
  have e1 : (w.alloc (.cells #[.pointer (some ⟨gb, 0, none⟩)] 49)).heap.size = w.heap.size + 1 := by simp
  have bw1 := wb_alloc w (.cells #[.pointer (some ⟨gb, 0, none⟩)] 49)
  generalize w.alloc (.cells #[.pointer (some ⟨gb, 0, none⟩)] 49) = W1 at *
  have bl := Boxed.new W1 48 (.slice none 0 0)
  have bm := Boxed.new (W1.alloc (.cells #[.slice none 0 0] 48)) 94 (.map (some mb))
  have hB0 : Below W1.heap.size W1 ((W1.alloc (.cells #[.slice none 0 0] 48)).alloc (.cells #[.map (some mb)] 94)) := ((Below.refl _ W1).alloc (Nat.le_refl _) _).alloc (by simp) _
  rw [World.size_alloc] at bm
  rw [e1] at bl bm hB0
  have hown0 : ((W1.alloc (.cells #[.slice none 0 0] 48)).alloc (.cells #[.map (some mb)] 94)).ownsMap Tryz.prog 9 (plainElem Tryz.prog 3) mb nn D := by
    obtain ⟨es, clock, hb, Ft, hs', hD'⟩ := hown
    have hbl : mb < w.heap.size := (Array.getElem?_eq_some_iff.1 hb).1
    exact ⟨es, clock, (hB0.block mb (by omega)).trans ((bw1.block mb hbl).trans hb), Ft, hs', hD'⟩
  refine wpIn_rangeFunc_ownG (F := Fence.wide) (n := 6) rfl (by omega) (gf := 81) (lb := #[.pointer (some ⟨w.heap.size + 1 + 1, 0, none⟩)]) rfl trivial (enters_of Tryz.func81 (by kernel_rfl) rfl)
    (gkeys_stops Fence.wide 5 trivial rfl (by omega) (w.heap.size + 1 + 1) mb nn D _ bm.lt bm.cell hown0) walksK_t walksK_b (Below.refl _ _) (fun _ => rfl)
    (fun pre W => (∃ v, Boxed W (w.heap.size + 1) 48 v ∧ W.ownsRow (w.heap.size + 1) 9 1 v (lnsK m pre).length ((lnsK m pre).map encStr) ∧ True) ∧ Below (w.heap.size + 1) W1 W)
    (fun _ _ _ => False)
    (OwnFrom.and (Own.from (holdsRow_own (w.heap.size + 1) (w.heap.size + 1) 48 9 1 (fun pre => (lnsK m pre).length) (fun pre => (lnsK m pre).map encStr) (fun _ _ => True)) _) (ownFrom_below (by omega) (by simp; omega)))
    (fun _ _ _ _ _ hs _ _ => hs)
    ⟨⟨_, bl.alloc _, World.ownsRow_nil _ _ _ _, trivial⟩, hB0⟩
    (fun x => { tmps := #[.pointer (some ⟨gb, 0, none⟩), .pointer (some ⟨w.heap.size, 0, none⟩), .string ⟨#[]⟩, .pointer (some ⟨w.heap.size + 1, 0, none⟩), .string (bs x.1), .pointer (some ⟨gb, 0, none⟩), .pointer (some ⟨gb, 0, none⟩), .pointer (some ⟨gb, 0, none⟩), .map (some mb), .func (.func 81) #[] #[.pointer (some ⟨w.heap.size + 1 + 1, 0, none⟩)], .string (bs x.1), undef, undef, undef, undef, undef, undef, undef, undef, undef, undef, undef, undef, undef, undef, undef, undef, undef, undef], defers := [] }) ?assign ?body ?done ?stop
  case assign =>
    intro l x W K hK
    gi_wp2
    rw [encStr_bs]
    exact hK
  case body =>
    rintro l pre x W ⟨⟨v, hv, hrow, _⟩, hB⟩ hlt
    have gW : GtAt W gb mb nn m := g1.below (by rw [e1]; exact hB)
    have bgW : Boxed W w.heap.size 49 (.pointer (some ⟨gb, 0, none⟩)) := (hB.block w.heap.size (by omega)).trans bg
    obtain ⟨hk12, hgk⟩ := gk_fine hl hwf (k := x.1) (by rw [← (hD x.1).1]; exact x.2)
    have bwW : Below w.heap.size w W := below_trans' bw1 (by rw [e1]; exact hB)
    have lk := gW.map.look (k := x.1) (by unfold maxLen; omega)
    have lkd := (gW.below (Below.drew (Below.refl _ _))).map.look (k := x.1) (by unfold maxLen; omega)
    have IT := Lib.hid (itoa_any E (glk m x.1) W.drew (hw.below (Below.drew bwW)) (by omega))
    have hdl := dec_len_le (n := glk m x.1) (k := 18) (by omega)
    have SN := Lib.hid (lnsK_snoc m pre x)
    have hnz : (bs x.1).size = x.1.length := bs_size _
    have LNE : Hid (∀ s : List UInt8, s = Lib.decDigits (glk m x.1) → (bs x.1 ++ ⟨#[32]⟩ ++ bs s) ++ ⟨#[10]⟩ = bs (lineG (x.1, glk m x.1))) := Lib.hid fun s hs => by
      subst hs
      apply eq_bs
      simp [lineG]
    have hdz : (bs (Lib.decDigits (glk m x.1))).size = (Lib.decDigits (glk m x.1)).length := bs_size _
    have k1 : ¬ 9223372036854775807 < x.1.length + 1 := by omega
    have k2 : ¬ 9223372036854775807 < x.1.length + 1 + (Lib.decDigits (glk m x.1)).length := by omega
    have k3 : ¬ 9223372036854775807 < x.1.length + 1 + (Lib.decDigits (glk m x.1)).length + 1 := by omega
    have hb12 : (lnsK m pre).length + 1 ≤ maxLen ∧ ((lnsK m pre).length + 1) * 16 ≤ 140737488355328 := by
      have hpl : (lnsK m pre).length = pre.length := by unfold lnsK; simp
      have hN : Maps.size D ≤ 20 := by rw [hsz, hl.length_eq]; exact hwf.few
      unfold maxLen
      omega
    have HB12 := Lib.hid hb12
    clear hb12
    obtain ⟨va, vc, rfl⟩ := owns_slice hrow
    have cl := hv.cell
    have fl := hv.frozen
    have cg := bgW.cell
    have c0 := gW.c0
    have hmx : Tryz.prog.follows .mixedOrders = true := by kernel_rfl
    have KO0 : Hid (∀ X, Below W.heap.size W X → KeepsOthers W X) := Lib.hid fun X hX => ⟨hX.size, fun k o hk _ => (hX.block k (Array.getElem?_eq_some_iff.1 hk).1).trans hk⟩
    have SGL : Hid (∀ X, Below (w.heap.size + 1) W1 X → X.cell? ⟨w.heap.size, 0, none⟩ = some (.pointer (some ⟨gb, 0, none⟩)) ∧ X.cell? ⟨gb, 0, none⟩ = some (.map (some mb)) ∧ (Instr.lookup 94 (.map (some mb)) (.string (bs x.1)) false).run Tryz.prog X = .ok (.int .i64 (glk m x.1 : Nat)) X) := Lib.hid fun X hX => by
      have gX := g1.below (by rw [e1]; exact hX)
      have bX : Boxed X w.heap.size 49 (.pointer (some ⟨gb, 0, none⟩)) := (hX.block w.heap.size (by omega)).trans bg
      exact ⟨bX.cell, gX.c0, gX.map.look (by unfold maxLen; omega)⟩
    have BD := Below.drew (Below.refl W.heap.size W)
    gi_wp2
    refine region_of_lone (fun X => X.cell? ⟨w.heap.size, 0, none⟩ = some (.pointer (some ⟨gb, 0, none⟩)) ∧ X.cell? ⟨gb, 0, none⟩ = some (.map (some mb)) ∧ (Instr.lookup 94 (.map (some mb)) (.string (bs x.1)) false).run Tryz.prog X = .ok (.int .i64 (glk m x.1 : Nat)) X) hmx (by kernel_rfl) (SGL.out _ (Below.drew hB)) (fun hS => ?_)
    clear cg c0 lk lkd hk12 hgk
    refine wpAnyH_take (i := 1) (v := ?tv1) rfl (by kernel_rfl) (by kernel_rfl) (by kernel_rfl) (fun _ _ _ h => h) (Or.inl ⟨by rfl, ?ty1⟩) hS ?tr1
    case ty1 => intro w0 hSw; obtain ⟨s1, s2, s3⟩ := hSw; go_simp; with_reducible rfl
    try simp only [Act.put, List.setIfInBounds_toArray, List.set_cons_zero, List.set_cons_succ]
    refine wpAnyH_take (i := 2) (v := ?tv2) rfl (by kernel_rfl) (by kernel_rfl) (by kernel_rfl) (fun _ _ _ h => h) (Or.inl ⟨by rfl, ?ty2⟩) hS ?tr2
    case ty2 => intro w0 hSw; obtain ⟨s1, s2, s3⟩ := hSw; go_simp; with_reducible rfl
    try simp only [Act.put, List.setIfInBounds_toArray, List.set_cons_zero, List.set_cons_succ]
    refine wpAnyH_take (i := 3) (v := ?tv3) rfl (by kernel_rfl) (by kernel_rfl) (by kernel_rfl) (fun _ _ _ h => h) (Or.inl ⟨by rfl, ?ty3⟩) hS ?tr3
    case ty3 => intro w0 hSw; obtain ⟨s1, s2, s3⟩ := hSw; go_simp; with_reducible rfl
    try simp only [Act.put, List.setIfInBounds_toArray, List.set_cons_zero, List.set_cons_succ]
    refine wpAnyH_take (i := 4) (v := ?tv4) rfl (by kernel_rfl) (by kernel_rfl) (by kernel_rfl) (fun _ _ _ h => h) (Or.inl ⟨by rfl, ?ty4⟩) hS ?tr4
    case ty4 => intro w0 hSw; obtain ⟨s1, s2, s3⟩ := hSw; go_simp; with_reducible rfl
    try simp only [Act.put, List.setIfInBounds_toArray, List.set_cons_zero, List.set_cons_succ]
    refine wpAnyH_take (i := 5) (v := ?tv5) rfl (by kernel_rfl) (by kernel_rfl) (by kernel_rfl) (fun _ _ _ h => h) (Or.inl ⟨by rfl, ?ty5⟩) hS ?tr5
    case ty5 => intro w0 hSw; obtain ⟨s1, s2, s3⟩ := hSw; go_simp; with_reducible rfl
    try simp only [Act.put, List.setIfInBounds_toArray, List.set_cons_zero, List.set_cons_succ]
    refine wpAnyH_take (i := 6) (v := ?tv6) rfl (by kernel_rfl) (by kernel_rfl) (by kernel_rfl) (fun _ _ _ h => h) (Or.inl ⟨by rfl, ?ty6⟩) hS ?tr6
    case ty6 => intro w0 hSw; obtain ⟨s1, s2, s3⟩ := hSw; go_simp; with_reducible rfl
    try simp only [Act.put, List.setIfInBounds_toArray, List.set_cons_zero, List.set_cons_succ]
    refine wpAnyH_take (i := 7) (v := ?tv7) rfl (by kernel_rfl) (by kernel_rfl) (by kernel_rfl) (fun _ _ _ h => h) (Or.inl ⟨by rfl, ?ty7⟩) hS ?tr7
    case ty7 => intro w0 hSw; obtain ⟨s1, s2, s3⟩ := hSw; go_simp; with_reducible rfl
    try simp only [Act.put, List.setIfInBounds_toArray, List.set_cons_zero, List.set_cons_succ]
    refine wpAnyH_take (i := 8) (v := ?tv8) rfl (by kernel_rfl) (by kernel_rfl) (by kernel_rfl) (fun _ _ _ h => h) (Or.inl ⟨by rfl, ?ty8⟩) hS ?tr8
    case ty8 => intro w0 hSw; obtain ⟨s1, s2, s3⟩ := hSw; go_simp; with_reducible rfl
    try simp only [Act.put, List.setIfInBounds_toArray, List.set_cons_zero, List.set_cons_succ]
    refine wpAnyH_ready (rs := [0, 9]) (by kernel_rfl) (by simp) ?_
    refine AllReadyH.cons rfl (fun K hK => ?_) ?_
    · go_simp
      refine hK.out _ _ hS (fun hS => ?_)
      clear hK K
      try simp only [Act.put, List.setIfInBounds_toArray, List.set_cons_zero, List.set_cons_succ]
      refine wpAnyH_ready (rs := [9]) (by kernel_rfl) (by simp) ?_
      refine AllReadyH.cons rfl (fun K hK => ?_) ?_
      · go_simp
        go_at_call 52
        refine IT.out.mono ?_
        rintro e w2 ⟨rfl, b2⟩
        have bW2 := below_trans' BD b2
        have hv2 : Boxed w2 (w.heap.size + 1) 48 (.slice va (lnsK m pre).length vc) := (bW2.block _ hv.lt).trans hv
        have cl2 := hv2.cell
        have fl2 := hv2.frozen
        have hrow2 := owns_below hrow bW2
        have hB2 : Below (w.heap.size + 1) W1 w2 := by rw [← e1] at hB ⊢; exact below_trans' hB bW2
        have hsz2 : w.heap.size + 1 ≤ w2.heap.size := by have := hv2.lt; omega
        refine hK.out _ _ (SGL.out _ hB2) (fun hS => ?_)
        clear hK K
        try simp only [Act.put, List.setIfInBounds_toArray, List.set_cons_zero, List.set_cons_succ]
        refine wpAnyH_take (i := 10) (v := ?tv10) rfl (by kernel_rfl) (by kernel_rfl) (by kernel_rfl) (fun _ _ _ h => h) (Or.inl ⟨by rfl, ?ty10⟩) hS ?tr10
        case ty10 => intro w0 hSw; obtain ⟨s1, s2, s3⟩ := hSw; go_simp; with_reducible rfl
        try simp only [Act.put, List.setIfInBounds_toArray, List.set_cons_zero, List.set_cons_succ]
        refine wpAnyH_take (i := 11) (v := ?tv11) rfl (by kernel_rfl) (by kernel_rfl) (by kernel_rfl) (fun _ _ _ h => h) (Or.inl ⟨by rfl, ?ty11⟩) hS ?tr11
        case ty11 => intro w0 hSw; obtain ⟨s1, s2, s3⟩ := hSw; go_simp; with_reducible rfl
        try simp only [Act.put, List.setIfInBounds_toArray, List.set_cons_zero, List.set_cons_succ]
        refine wpAnyH_ready (rs := [12]) (by kernel_rfl) (by simp) ?_
        refine AllReadyH.cons rfl (fun K hK => ?_) ?_
        · go_simp
          have hB2a := hB2.alloc hsz2 (.cells #[.string (bs x.1 ++ ⟨#[32]⟩ ++ bs (Lib.decDigits (glk m x.1)) ++ ⟨#[10]⟩)] 9)
          have cl2a := (hv2.alloc (.cells #[.string (bs x.1 ++ ⟨#[32]⟩ ++ bs (Lib.decDigits (glk m x.1)) ++ ⟨#[10]⟩)] 9)).cell
          refine hK.out _ _ (SGL.out _ hB2a) (fun hS => ?_)
          clear hK K
          try simp only [Act.put, List.setIfInBounds_toArray, List.set_cons_zero, List.set_cons_succ]
          refine wpAnyH_ready (rs := [13]) (by kernel_rfl) (by simp) ?_
          refine AllReadyH.cons rfl (fun K hK => ?_) ?_
          · obtain ⟨v', w3, hrun, hown', hgrow⟩ := app_one w2 (w.heap.size + 1) _ _ _ (bs x.1 ++ ⟨#[32]⟩ ++ bs (Lib.decDigits (glk m x.1)) ++ ⟨#[10]⟩) hrow2 HB12.out hsz2
            obtain ⟨g', cap', rfl⟩ := ownsRow_succ hown'
            obtain ⟨hv3, hv4, hr4, hk4, hb4⟩ := hv2.appended (by decide) hrow2 hsz2 (Nat.le_refl _) hown' hgrow
            have hB3 : Below (w.heap.size + 1) W1 w3 := hB2a.grown hgrow (by simp; omega) (fun j ej => own_base hrow2 ej)
            have hc3 := hv3.cell
            have hf3 := hv3.frozen
            go_simp
            refine hK.out _ _ (SGL.out _ hB3) (fun hS => ?_)
            clear hK K
            try simp only [Act.put, List.setIfInBounds_toArray, List.set_cons_zero, List.set_cons_succ]
            refine wpAnyH_ready (rs := [14]) (by kernel_rfl) (by simp) ?_
            refine AllReadyH.cons rfl (fun K hK => ?_) ?_
            · go_simp
              refine hK.out _ _ (SGL.out _ (hB3.setCell (p := ⟨w.heap.size + 1, 0, none⟩) (Nat.le_refl _) _)) (fun hS => ?_)
              clear hK K
              try simp only [Act.put, List.setIfInBounds_toArray, List.set_cons_zero, List.set_cons_succ]
              refine wpAnyH_done (by kernel_rfl) ?_ _
              refine Plainly.mk ?_
              gi_wp2
              exact ⟨((KO0.out _ bW2).trans hk4).from _, ((KO0.out _ bW2).trans hk4).walks, ⟨_, hv4, by rw [SN.out, List.length_append, List.map_append]; exact (by simpa [encStr_bs, LNE.out _ rfl] using hr4), trivial⟩, hB3.setCell (p := ⟨w.heap.size + 1, 0, none⟩) (Nat.le_refl _) _⟩
            · exact AllReadyH.nil
          · exact AllReadyH.nil
        · exact AllReadyH.nil
      · exact AllReadyH.nil
    refine AllReadyH.cons rfl (fun K hK => ?_) ?_
    · go_simp
      go_at_call 52
      refine IT.out.mono ?_
      rintro e w2 ⟨rfl, b2⟩
      have bW2 := below_trans' BD b2
      have hv2 : Boxed w2 (w.heap.size + 1) 48 (.slice va (lnsK m pre).length vc) := (bW2.block _ hv.lt).trans hv
      have cl2 := hv2.cell
      have fl2 := hv2.frozen
      have hrow2 := owns_below hrow bW2
      have hB2 : Below (w.heap.size + 1) W1 w2 := by rw [← e1] at hB ⊢; exact below_trans' hB bW2
      have hsz2 : w.heap.size + 1 ≤ w2.heap.size := by have := hv2.lt; omega
      refine hK.out _ _ (SGL.out _ hB2) (fun hS => ?_)
      clear hK K
      try simp only [Act.put, List.setIfInBounds_toArray, List.set_cons_zero, List.set_cons_succ]
      refine wpAnyH_take (i := 10) (v := ?tvb10) rfl (by kernel_rfl) (by kernel_rfl) (by kernel_rfl) (fun _ _ _ h => h) (Or.inl ⟨by rfl, ?tyb10⟩) hS ?trb10
      case tyb10 => intro w0 hSw; obtain ⟨s1, s2, s3⟩ := hSw; go_simp; with_reducible rfl
      try simp only [Act.put, List.setIfInBounds_toArray, List.set_cons_zero, List.set_cons_succ]
      refine wpAnyH_take (i := 11) (v := ?tvb11) rfl (by kernel_rfl) (by kernel_rfl) (by kernel_rfl) (fun _ _ _ h => h) (Or.inl ⟨by rfl, ?tyb11⟩) hS ?trb11
      case tyb11 => intro w0 hSw; obtain ⟨s1, s2, s3⟩ := hSw; go_simp; with_reducible rfl
      try simp only [Act.put, List.setIfInBounds_toArray, List.set_cons_zero, List.set_cons_succ]
      refine wpAnyH_ready (rs := [0, 12]) (by kernel_rfl) (by simp) ?_
      refine AllReadyH.cons rfl (fun K hK => ?_) ?_
      · go_simp
        refine hK.out _ _ hS (fun hS => ?_)
        clear hK K
        try simp only [Act.put, List.setIfInBounds_toArray, List.set_cons_zero, List.set_cons_succ]
        refine wpAnyH_ready (rs := [12]) (by kernel_rfl) (by simp) ?_
        refine AllReadyH.cons rfl (fun K hK => ?_) ?_
        · go_simp
          have hB2a := hB2.alloc hsz2 (.cells #[.string (bs x.1 ++ ⟨#[32]⟩ ++ bs (Lib.decDigits (glk m x.1)) ++ ⟨#[10]⟩)] 9)
          have cl2a := (hv2.alloc (.cells #[.string (bs x.1 ++ ⟨#[32]⟩ ++ bs (Lib.decDigits (glk m x.1)) ++ ⟨#[10]⟩)] 9)).cell
          refine hK.out _ _ (SGL.out _ hB2a) (fun hS => ?_)
          clear hK K
          try simp only [Act.put, List.setIfInBounds_toArray, List.set_cons_zero, List.set_cons_succ]
          refine wpAnyH_ready (rs := [13]) (by kernel_rfl) (by simp) ?_
          refine AllReadyH.cons rfl (fun K hK => ?_) ?_
          · obtain ⟨v', w3, hrun, hown', hgrow⟩ := app_one w2 (w.heap.size + 1) _ _ _ (bs x.1 ++ ⟨#[32]⟩ ++ bs (Lib.decDigits (glk m x.1)) ++ ⟨#[10]⟩) hrow2 HB12.out hsz2
            obtain ⟨g', cap', rfl⟩ := ownsRow_succ hown'
            obtain ⟨hv3, hv4, hr4, hk4, hb4⟩ := hv2.appended (by decide) hrow2 hsz2 (Nat.le_refl _) hown' hgrow
            have hB3 : Below (w.heap.size + 1) W1 w3 := hB2a.grown hgrow (by simp; omega) (fun j ej => own_base hrow2 ej)
            have hc3 := hv3.cell
            have hf3 := hv3.frozen
            go_simp
            refine hK.out _ _ (SGL.out _ hB3) (fun hS => ?_)
            clear hK K
            try simp only [Act.put, List.setIfInBounds_toArray, List.set_cons_zero, List.set_cons_succ]
            refine wpAnyH_ready (rs := [14]) (by kernel_rfl) (by simp) ?_
            refine AllReadyH.cons rfl (fun K hK => ?_) ?_
            · go_simp
              refine hK.out _ _ (SGL.out _ (hB3.setCell (p := ⟨w.heap.size + 1, 0, none⟩) (Nat.le_refl _) _)) (fun hS => ?_)
              clear hK K
              try simp only [Act.put, List.setIfInBounds_toArray, List.set_cons_zero, List.set_cons_succ]
              refine wpAnyH_done (by kernel_rfl) ?_ _
              refine Plainly.mk ?_
              gi_wp2
              exact ⟨((KO0.out _ bW2).trans hk4).from _, ((KO0.out _ bW2).trans hk4).walks, ⟨_, hv4, by rw [SN.out, List.length_append, List.map_append]; exact (by simpa [encStr_bs, LNE.out _ rfl] using hr4), trivial⟩, hB3.setCell (p := ⟨w.heap.size + 1, 0, none⟩) (Nat.le_refl _) _⟩
            · exact AllReadyH.nil
          · exact AllReadyH.nil
        · exact AllReadyH.nil
      refine AllReadyH.cons rfl (fun K hK => ?_) ?_
      · go_simp
        have hB2a := hB2.alloc hsz2 (.cells #[.string (bs x.1 ++ ⟨#[32]⟩ ++ bs (Lib.decDigits (glk m x.1)) ++ ⟨#[10]⟩)] 9)
        have cl2a := (hv2.alloc (.cells #[.string (bs x.1 ++ ⟨#[32]⟩ ++ bs (Lib.decDigits (glk m x.1)) ++ ⟨#[10]⟩)] 9)).cell
        refine hK.out _ _ (SGL.out _ hB2a) (fun hS => ?_)
        clear hK K
        try simp only [Act.put, List.setIfInBounds_toArray, List.set_cons_zero, List.set_cons_succ]
        refine wpAnyH_ready (rs := [0]) (by kernel_rfl) (by simp) ?_
        refine AllReadyH.cons rfl (fun K hK => ?_) ?_
        · go_simp
          refine hK.out _ _ hS (fun hS => ?_)
          clear hK K
          try simp only [Act.put, List.setIfInBounds_toArray, List.set_cons_zero, List.set_cons_succ]
          refine wpAnyH_ready (rs := [13]) (by kernel_rfl) (by simp) ?_
          refine AllReadyH.cons rfl (fun K hK => ?_) ?_
          · obtain ⟨v', w3, hrun, hown', hgrow⟩ := app_one w2 (w.heap.size + 1) _ _ _ (bs x.1 ++ ⟨#[32]⟩ ++ bs (Lib.decDigits (glk m x.1)) ++ ⟨#[10]⟩) hrow2 HB12.out hsz2
            obtain ⟨g', cap', rfl⟩ := ownsRow_succ hown'
            obtain ⟨hv3, hv4, hr4, hk4, hb4⟩ := hv2.appended (by decide) hrow2 hsz2 (Nat.le_refl _) hown' hgrow
            have hB3 : Below (w.heap.size + 1) W1 w3 := hB2a.grown hgrow (by simp; omega) (fun j ej => own_base hrow2 ej)
            have hc3 := hv3.cell
            have hf3 := hv3.frozen
            go_simp
            refine hK.out _ _ (SGL.out _ hB3) (fun hS => ?_)
            clear hK K
            try simp only [Act.put, List.setIfInBounds_toArray, List.set_cons_zero, List.set_cons_succ]
            refine wpAnyH_ready (rs := [14]) (by kernel_rfl) (by simp) ?_
            refine AllReadyH.cons rfl (fun K hK => ?_) ?_
            · go_simp
              refine hK.out _ _ (SGL.out _ (hB3.setCell (p := ⟨w.heap.size + 1, 0, none⟩) (Nat.le_refl _) _)) (fun hS => ?_)
              clear hK K
              try simp only [Act.put, List.setIfInBounds_toArray, List.set_cons_zero, List.set_cons_succ]
              refine wpAnyH_done (by kernel_rfl) ?_ _
              refine Plainly.mk ?_
              gi_wp2
              exact ⟨((KO0.out _ bW2).trans hk4).from _, ((KO0.out _ bW2).trans hk4).walks, ⟨_, hv4, by rw [SN.out, List.length_append, List.map_append]; exact (by simpa [encStr_bs, LNE.out _ rfl] using hr4), trivial⟩, hB3.setCell (p := ⟨w.heap.size + 1, 0, none⟩) (Nat.le_refl _) _⟩
            · exact AllReadyH.nil
          · exact AllReadyH.nil
        · exact AllReadyH.nil
      exact AllReadyH.nil
    exact AllReadyH.nil
  case done =>
    rintro D2 xs W hD2 hp ⟨⟨v, hv, hrow, _⟩, hB⟩ hK
    have hnd : (m.map Prod.fst).Nodup := perm_nodup hl hwf.srt.nodup
    have hpm := names_perm hown (fun k => (hD k).1) hnd hp
    have hsort := lnsK_sorted hpm hl hwf
    have hlen : (lnsK m xs).length = l.length := by
      rw [← List.length_mergeSort (lnsK m xs) (le := leB), hsort, List.length_map]
    have hgl := hwf.few
    have HSORT := Lib.hid hsort
    have HLEN := Lib.hid hlen
    have HGT := Lib.hid (gtext_is l)
    clear hsort hpm hp
    generalize lnsK m xs = ks at *
    have hfS : Fence.wide.fn 53 := trivial
    have hfJ : Fence.wide.fn 54 := trivial
    have cl := hv.cell
    rcases hrow.2 with ⟨rfl, hz⟩ | ⟨g, cap, cur, rfl, hbase, hb, h1, h2, h3, h4⟩
    · have hk0 : ks = [] := by simpa using hz
      subst hk0
      have hz : l = [] := List.eq_nil_of_length_eq_zero (by simpa using hlen.symm)
      gi_wp2_with (first | (gi_at_call 53; refine (callsIn_wide.2 (Tryz.slices_Sort_string_none _ _ _)).mono ?_; rintro e w4 ⟨rfl, rfl⟩) | (gi_at_call 54; refine (callsIn_wide.2 (Tryz.strings_Join_none _ _ _ _)).mono ?_; rintro e w5 ⟨rfl, rfl⟩))
      refine ⟨by simp, .inl ⟨_, _, rfl, run_takeDeferred hK, ?_⟩⟩
      refine ⟨_, results_tmp rfl _ _ _, ?_⟩
      subst hz
      refine ⟨by rw [show gtext [] = [] from rfl, bs_nil]; simp [go_sem], below_put (below_trans' bw1 (by rw [e1]; exact hB)) ?_ _⟩
      simp at hD2; omega
    · have hgb := (Array.getElem?_eq_some_iff.1 hb).1
      have hH := holds_of_block hb (by simpa using h4)
      have ST := Lib.hid (Tryz.slices_Sort_string g 0 cap ks W hH hgb (by omega))
      have hDg : D2 ≠ g := by rintro rfl; rw [hK] at hb; cases hb
      have HLL := Lib.hid hlen
      have OS := Lib.hid (fun (n : Nat) (os : Array Obj) => ownsRow_sorted (os := os) (n := n) (ss := ks) (ts := l.map lineG) (by rw [List.length_map]; exact hlen.symm) hbase hb h1 h2 h3)
      have GB := Lib.hid (fun (n : Nat) (os : Array Obj) => grownBy_sorted (w := W) (g := g) (n := n) (os := os) (l.map lineG).toArray)
      clear hH h4 hlen
      gi_wp2_with (gi_at_call 53; refine (callsIn_wide.2 ST.out).mono ?_; rintro e w4 ⟨rfl, n5, os5, hw4⟩; rw [HSORT.out] at hw4; have own4 := OS.out n5 os5; rw [← hw4] at own4; have gb4 := GB.out n5 os5; rw [← hw4] at gb4; have cl4 := (hv.kept gb4 (hv.not_row (by decide) hrow)).cell; have HW4 := Lib.hid hw4; clear hw4)
      rcases own4.2 with ⟨e0, _⟩ | ⟨g', cap', cur', e0, hbase', hb', h1', h2', h3', h4'⟩
      · cases e0
      cases e0
      have hH4 := holds_of_block (ss := l.map lineG) hb' (by simpa [HLL.out] using h4')
      have JN := Tryz.strings_Join g 0 cap ((l.map lineG).map bs) ⟨#[]⟩ w4 (fun j x hx => by
        have hj : j < l.length := by have := (List.getElem?_eq_some_iff.1 hx).1; simpa using this
        have hc := (hH4 j (by simpa using hj)).1
        rw [List.map_map, List.getElem?_map, List.getElem?_eq_getElem hj] at hx
        simp at hx
        rw [hc, ← hx]
        simp [hj, encStr_bs]) (Array.getElem?_eq_some_iff.1 hb').1 (by simp; omega) (by simp; have := HLL.out; omega) (by rw [List.map_map, show ((fun x : ByteArray => x.data.toList) ∘ bs) = id from funext fun x => bs_list x, List.map_id, show (ByteArray.mk #[]).data.toList = [] from rfl, join_flat, ← HGT.out]; have := gtext_le hwf; omega)
      have eJ : ((l.map lineG).map bs).length = ks.length := by simp [HLL.out]
      rw [eJ, List.map_map, show ((fun x : ByteArray => x.data.toList) ∘ bs) = id from funext fun x => bs_list x, List.map_id, show (ByteArray.mk #[]).data.toList = [] from rfl, join_flat, ← HGT.out] at JN
      have JNH := Lib.hid JN
      have B4 : Below (w.heap.size + 1) W1 w4 := hB.grown gb4 (by have := hv.lt; omega) (fun k e => by cases e; exact hbase)
      have hK4 : w4.heap[D2]? = some (.deferred (some [])) := (gb4.block D2 (Array.getElem?_eq_some_iff.1 hK).1 (by intro e; cases e; exact hDg rfl)).trans hK
      clear JN
      gi_wp2_with (gi_at_call 54; refine (callsIn_wide.2 JNH.out).mono ?_; rintro e w5 ⟨rfl, b5⟩; have hK5 := (b5.block D2 (Array.getElem?_eq_some_iff.1 hK4).1).trans hK4)
      refine ⟨by simp, .inl ⟨_, _, rfl, run_takeDeferred hK5, ?_⟩⟩
      refine ⟨_, results_tmp rfl _ _ _, ?_⟩
      refine ⟨by simp [go_sem, bs], below_put (below_trans' bw1 (by rw [e1]; exact B4.trans (b5.mono (by have := B4.size; omega)))) ?_ _⟩
      simp at hD2; omega
  case stop =>
    rintro D c pre W _ _ h _
    exact h.elim
end Go.Proofs.YtkjcclbnbbbfaaaGreatDoor
