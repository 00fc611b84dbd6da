/- Texts of one proof, one behind the other: LibW, DoorS, FilName, FilChk. -/
import Derived.Test.YtppkeophochgiaaGreatDoorB06
import Derived.Test.YtppkeophochgiaaGreatDoorB04
import Derived.Test.YtppkeophochgiaaGreatDoorB07
import Derived.Lib.AppendIntMem
import Derived.Lib.LaidTab
import Derived.Handed
import Derived.HandedShaped
import Derived.Shelf.Vars
import Derived.Test.YtppkeophochgiaaGreatDoorB10
import Derived.Test.YtppkeophochgiaaGreatDoorB08
import Derived.Shelf.Abstract
/- What a row gives of the library's variables, and the library's functions of numbers and cuts by their contracts. -/
namespace Go.Proofs.YtppkeophochgiaaGreatDoor
open Go.RowKit
set_option linter.unusedVariables false

/-- the table of powers of ten; the greatest length of a short look -/
def TabW (w : World) : Prop := Lib.TabIs Tryz.prog w "internal/strconv.uint64pow10" .u64 Lib.pow10Tab
def MaxW (w : World) : Prop := ∃ m, w.cell? ⟨13, 0, none⟩ = some (.int .i64 m)
/-- the library's variables that numbers and cuts read -/
structure LibW (E : Nat → Addr) (w : World) : Prop where
  tab : Lib.TabIs Tryz.prog w "internal/strconv.uint64pow10" .u64 Lib.pow10Tab
  ml : ∃ m, w.cell? ⟨13, 0, none⟩ = some (.int .i64 m)
  syn : Has E w 13
  rng : Has E w 14
theorem var_below {P : Program} {w w' : World} {n : String} {cs : Array Value} (h : w.var? P n = some cs) (hb : Below w.heap.size w w') : w'.var? P n = some cs := by
  unfold World.var? at h ⊢
  cases hg : P.globalNamed n with
  | none => simp [hg] at h
  | some g =>
    simp only [hg, Option.bind_some] at h ⊢
    have hlt : g < w.heap.size := by
      rcases Nat.lt_or_ge g w.heap.size with h' | h'
      · exact h'
      · simp [Array.getElem?_eq_none h'] at h
    rw [hb.block g hlt]
    exact h
theorem LibW.below {E : Nat → Addr} {w w' : World} (h : LibW E w) (hb : Below w.heap.size w w') : LibW E w' := by
  obtain ⟨m, hm⟩ := h.ml
  exact ⟨var_below h.tab hb, ⟨m, (hb.cell (p := ⟨13, 0, none⟩) (World.block_lt_of_cell? w _ hm)).trans hm⟩, h.syn.below hb, h.rng.below hb⟩
theorem itoa_any (E : Nat → Addr) (n : Nat) (w : World) (hw : LibW E w) (hn : n ≤ 9223372036854775807) :
    Calls Tryz.prog 106 #[.int .i64 n] w fun e w' => e = .returned (.string (bs (Lib.decDigits n))) ∧ Below w.heap.size w w' := by
  refine (Tryz.strconv_Itoa (n : Int) (by omega) (by omega) w hw.tab).mono ?_
  rintro e w' ⟨rfl, k, os, rfl⟩
  refine ⟨?_, Lib.below_grow _ _ (Nat.le_refl _) k os⟩
  rw [Lib.itoa_nonneg]
  unfold bs; rfl
theorem atoi_yes (E : Nat → Addr) (d : List UInt8) (v : Int) (w : World) (hd : d.length ≤ 1000000000) (h : Lib.atoiAll d = .ok v) :
    Calls Tryz.prog 149 #[.string (bs d)] w fun e w' => e = .returned (.tuple #[.int .i64 v, .nilIface]) ∧ Below w.heap.size w w' := by
  refine (Tryz.strconv_Atoi_ok (bs d) (by rw [bs_size]; omega) v (by rw [bs_list]; exact h) w).mono ?_
  rintro e w' ⟨rfl, h⟩
  refine ⟨rfl, ?_⟩
  rcases h with rfl | ⟨t, rfl⟩
  · exact Below.refl _ _
  · exact Lib.bytesWorld_below w _ t
theorem atoi_no (E : Nat → Addr) (d : List UInt8) (w : World) (hd : d.length ≤ 1000000000) (hw : LibW E w) (h : ∀ v, Lib.atoiAll d ≠ .ok v) :
    Calls Tryz.prog 149 #[.string (bs d)] w fun e w' => ∃ v t p, e = .returned (.tuple #[.int .i64 v, .iface t p]) ∧ Below w.heap.size w w' := by
  have hs : (bs d).size ≤ 281474976710656 := by rw [bs_size]; omega
  have hY : w.cell? ⟨17, 0, none⟩ = some (errv (E 13)) := hw.syn
  have hR : w.cell? ⟨18, 0, none⟩ = some (errv (E 14)) := hw.rng
  rcases e : Lib.atoiAll d with v | _ | _
  · exact absurd e (h v)
  · refine (Tryz.strconv_Atoi_syntax (bs d) hs (by rw [bs_list]; exact e) _ w hY (.inr (by unfold errv; exact ⟨_, _, rfl⟩))).mono ?_
    rintro e w' ⟨N, rfl, _, _, hb⟩
    exact ⟨_, _, _, rfl, hb⟩
  · refine (Tryz.strconv_Atoi_range (bs d) hs (by rw [bs_list]; exact e) _ w hR (.inr (by unfold errv; exact ⟨_, _, rfl⟩))).mono ?_
    rintro e w' ⟨N, rfl, _, _, hb⟩
    exact ⟨_, _, _, rfl, hb⟩
theorem scut_any (E : Nat → Addr) (c : UInt8) (sep : ByteArray) (hsep : sep.data.toList = [c]) (l : List UInt8) (w : World) (hl : l.length ≤ 1000000000) (hw : LibW E w) :
    Calls Tryz.prog 70 #[.string (bs l), .string sep] w fun e w' => e = .returned (.tuple #[.string (bs (cutA c l)), .string (bs (cutB c l)), .bool (cutC c l).isSome]) ∧ Below w.heap.size w w' := by
  obtain ⟨m, hm⟩ := hw.ml
  refine (Tryz.strings_Cut (bs l) sep m w (by rw [bs_size]; omega) hm).mono ?_
  rintro e w' ⟨rfl, n, rfl⟩
  refine ⟨?_, Drew.below ⟨n, rfl⟩ _⟩
  obtain ⟨e1, e2, e3⟩ := cut_a c l
  rw [bs_list, hsep, e1, e2, e3]
  unfold bs; rfl
end Go.Proofs.YtppkeophochgiaaGreatDoor
/- What a row that lists the library's tables gives a walk: the wrap with the world's shape; the table of powers of ten; a length. -/
namespace Go.Proofs.YtppkeophochgiaaGreatDoor
open Go.RowKit Go.ChangeShapes
set_option linter.unusedVariables false

theorem returnsInHanded_of_change_andS {H : Type} {enc : TypeId × Value → H} {a : Assume} {C : Checked} {os : Os} {f : FuncId} {fn : Func} {s : ChangeSpec} {conds : List PathCond} {apart fresh handsOn again : Bool} {X : World → Array Value → Prop}
    (hX : ∀ (w w' : World) (args : Array Value), w.heap = w'.heap → X w args → X w' args)
    (own : ownKnob C.prog.godebug = none) (started : os.Started) (noInit : C.prog.inits.idxOf? f = none) (hfn : C.prog.funcs[f]? = some fn)
    (witness : ∃ (w : World) (tape : Tape) (i : Input), w.os = os ∧ (w.forCall tape i).Shaped C.prog ∧ i.vars = [] ∧ Input.okWide C.prog (w.forCall tape i) .any w.heap.size f i ∧
      ((s.pre enc C.prog fn conds apart (w.forCall tape i).memory i.args ∧ X (w.forCall tape i).memory i.args) ∧ sizedMet enc C.prog fn (OpenSpec.ofChange s) apart (w.forCall tape i).memory i.args) ∧ a.holds C.prog (lone (Frame.enter C.prog f i.args .normal) [] (w.forCall tape i)))
    (contract : ∀ (W : World) (base : Nat) (args : Array Value) (ds gs : List (DataW H)) (before : List MemPlace),
      (∀ (j : Nat) t v, fn.params[j]? = some t → args[j]? = some v → Value.okWide C.prog W .any base t v) →
      DataW.Whole enc C.prog fn.params.toList s.vars apart W args.toList ds gs before →
      conds.all (PathCond.test C.prog ⟨fn.params.toList, ds, s.plain.varTypes C.prog, gs⟩) = true →
      (DataW.weightsEach C.prog (fn.params.toList ++ s.plain.varTypes C.prog) (ds ++ gs)).all (· ≤ reachBytes) = true → X W args → W.ShapedOpen C.prog →
      a.holds C.prog (lone (Frame.enter C.prog f args .normal) [] W) →
      Calls C.prog f args W fun e W' => ∃ v, e = .returned v ∧ s.post enc C.prog fn apart fresh handsOn again W args v W') :
    ReturnsInHanded a C os f .any (fun w args => (s.pre enc C.prog fn conds apart w args ∧ X w args) ∧ sizedMet enc C.prog fn (OpenSpec.ofChange s) apart w args) (s.post enc C.prog fn apart fresh handsOn again) := by
  refine returnsInHanded_of_calls own started noInit witness ?_
  intro w tape i _ hsh _ hok hpre hholds
  obtain ⟨_, _, _, fn', hfn', _, _, _, _, hval⟩ := hok
  have e : fn' = fn := Option.some.inj (hfn'.symm.trans hfn)
  subst e
  obtain ⟨⟨⟨ds, gs, before, hw, hc⟩, hx⟩, hz⟩ := hpre
  have hw' := DataW.Whole.of_heap (w' := w.forCall tape i) (by rfl) hw
  refine (contract (w.forCall tape i) w.heap.size i.args ds gs before hval hw' hc (hz.weights hw) (hX _ _ _ (by rfl) hx) hsh hholds).mono fun e W' ⟨v, he, hp⟩ => ?_
  subst he
  exact ChangeSpec.post_blind hp
theorem pow_at : Tryz.prog.globalNamed "internal/strconv.uint64pow10" = some 16 := by kernel_rfl
set_option maxRecDepth 100000 in
theorem tab_of {W : World} (h : laidMet Tryz.prog [("internal/strconv.uint64pow10", Lib.tabData .u64 Lib.pow10Tab)] W) : TabW W := by
  exact Lib.tabIs_of_head (t := 287) (e := 181) (n := 20) pow_at (by kernel_rfl) Tryz.underlying287 Tryz.underlying181 (by kernel_rfl) (by kernel_rfl) h
theorem max_of {W : World} (h : W.ShapedOpen Tryz.prog) : MaxW W :=
  cell_of_shapedOpen_int (P := Tryz.prog) (g := 13) (t := 3) (zero := #[.int .i64 0]) h (of_decide_eq_true (by kernel_rfl)) (by kernel_rfl) rfl (by kernel_rfl) (by kernel_rfl) Tryz.underlying3
end Go.Proofs.YtppkeophochgiaaGreatDoor
/- Contract of files.Name. -/
namespace Go.Proofs.YtppkeophochgiaaGreatDoor
open Go.RowKit
set_option linter.unusedVariables false

def cutS : List UInt8 := [97, 98, 99, 100, 101, 102, 103, 104, 105, 106, 107, 108, 109, 110, 111, 112, 113, 114, 115, 116, 117, 118, 119, 120, 121, 122, 48, 49, 50, 51, 52, 53, 54, 55, 56, 57, 46, 45]
theorem cut_nch (c : UInt8) : cutS.contains c = nchB c := by
  have h : ∀ n : Fin 256, cutS.contains (UInt8.ofFin n) = nchB (UInt8.ofFin n) := by decide +kernel
  have := h c.toFin
  simpa using this
theorem dw_head (p : UInt8 → Bool) (l : List UInt8) : (l.dropWhile p = [] ∧ ∀ x ∈ l, p x = true) ∨ ∃ x r, l.dropWhile p = x :: r ∧ p x = false ∧ x ∈ l := by
  induction l with
  | nil => exact .inl ⟨rfl, by simp⟩
  | cons a l ih =>
    rw [List.dropWhile_cons]
    cases h : p a with
    | false => exact .inr ⟨a, l, by simp, h, by simp⟩
    | true =>
      simp only [if_true]
      rcases ih with ⟨h1, h2⟩ | ⟨x, r, h1, h2, h3⟩
      · refine .inl ⟨h1, fun x hx => ?_⟩
        rcases List.mem_cons.1 hx with rfl | hx
        · exact h
        · exact h2 x hx
      · exact .inr ⟨x, r, h1, h2, by simp [h3]⟩
theorem trimS_all (l cs : List UInt8) : (Lib.trimS l cs == []) = l.all (fun c => cs.contains c) := by
  unfold Lib.trimS Lib.trimRightS Lib.trimLeftS
  rcases dw_head (cs.contains ·) l.reverse with ⟨h1, h2⟩ | ⟨x, r, h1, h2, h3⟩
  · rw [h1]
    have : l.all (fun c => cs.contains c) = true := List.all_eq_true.2 (fun x hx => h2 x (by simpa using hx))
    rw [this]; rfl
  · rw [h1]
    have hf : l.all (fun c => cs.contains c) = false := by
      rw [List.all_eq_false]
      exact ⟨x, by simpa using h3, by simpa using h2⟩
    rw [hf]
    rcases dw_head (cs.contains ·) (x :: r).reverse with ⟨k1, k2⟩ | ⟨y, s, k1, k2, k3⟩
    · have := k2 x (by simp)
      rw [h2] at this; cases this
    · rw [k1]; rfl
theorem cut_val : (⟨cutS.toArray⟩ : ByteArray) = ⟨#[97, 98, 99, 100, 101, 102, 103, 104, 105, 106, 107, 108, 109, 110, 111, 112, 113, 114, 115, 116, 117, 118, 119, 120, 121, 122, 48, 49, 50, 51, 52, 53, 54, 55, 56, 57, 46, 45]⟩ := rfl
theorem trim_any (s : List UInt8) (w : World) (hs : s.length ≤ maxLen) :
    Calls Tryz.prog 196 #[.string (bs s), .string ⟨#[97, 98, 99, 100, 101, 102, 103, 104, 105, 106, 107, 108, 109, 110, 111, 112, 113, 114, 115, 116, 117, 118, 119, 120, 121, 122, 48, 49, 50, 51, 52, 53, 54, 55, 56, 57, 46, 45]⟩] w fun e w' => ∃ t, e = .returned (.string (bs t)) ∧ (t == []) = s.all nchB ∧ Below w.heap.size w w' := by
  rw [← cut_val]
  refine (Tryz.strings_Trim_set (bs s) ⟨cutS.toArray⟩ w (by rw [bs_size]; unfold maxLen at hs; omega) (by decide) (fun j b hb => ?_)).mono ?_
  · have hm : b ∈ cutS := List.mem_of_getElem? (by simpa using hb)
    have : ∀ c ∈ cutS, c.toNat < 128 := by decide
    exact this b hm
  · rintro e w' ⟨rfl, hb⟩
    refine ⟨Lib.trimS (bs s).data.toList cutS, by unfold bs; rfl, ?_, hb⟩
    rw [bs_list]
    show (Lib.trimS s cutS == []) = _
    rw [trimS_all]
    congr 1
    funext c
    exact cut_nch c
set_option maxRecDepth 100000 in
set_option maxHeartbeats 3200000 in
theorem flname_any (s : List UInt8) (w : World) (hs : s.length ≤ maxLen) :
    Calls Tryz.prog 162 #[.string (bs s)] w fun e w' => e = .returned (.bool (nameB s)) ∧ Below w.heap.size w w' := by
  have hsz : (bs s).size = s.length := bs_size s
  have HD := Lib.hid (show nameB s = (decide (1 ≤ s.length) && decide (s.length ≤ 12) && s.all nchB) from rfl)
  have TR := Lib.hid (fun w' => trim_any s w' hs)
  unfold maxLen at hs
  have htl : (bs s).toList = s := by rw [ByteArray.toList_eq, bs_list]
  by_cases h0 : s = []
  · subst h0
    have HB := Lib.hid (Below.refl w.heap.size w)
    have hnil : (bs []).toList = [] := htl
    have hd : nameB [] = false := rfl
    rw [hd]
    clear htl hd HD
    go_enter Tryz.func162, Tryz.ntmps162
    go_wp2_with fail
    go_ret
    exact ⟨rfl, HB.out⟩
  · have hne : (bs s).toList.isEmpty = false := by rw [htl]; cases s <;> simp_all
    have hne2 : ¬ (bs s).toList = [] := by rw [htl]; exact h0
    have h1 : decide (1 ≤ s.length) = true := by cases s <;> simp_all
    rw [h1] at HD
    by_cases h12 : s.length ≤ 12
    · have hI : ((bs s).size : Int) ≤ 12 := by omega
      have hd2 : decide (s.length ≤ 12) = true := by simpa using h12
      rw [hd2] at HD
      generalize s.all nchB = x at HD TR
      generalize bs s = S at *
      clear htl hd2 h1 hsz
      go_enter Tryz.func162, Tryz.ntmps162
      go_wp2_with fail
      refine (TR.out _).mono ?_
      rintro e w1 ⟨t, rfl, ht, b1⟩
      have htl : (bs t).toList = t := by rw [ByteArray.toList_eq, bs_list]
      cases x with
      | true =>
        have h9 : t = [] := by simpa using ht
        have h9' : (bs t).toList = [] := by rw [htl]; exact h9
        clear ht htl h9
        generalize bs t = tt at *
        go_wp2_with fail
        go_ret
        exact ⟨by rw [HD.out]; rfl, b1⟩
      | false =>
        have h9 : t ≠ [] := by simpa using ht
        have h9' : (bs t).toList.isEmpty = false := by rw [htl]; cases t <;> simp_all
        have h9'' : ¬ (bs t).toList = [] := by rw [htl]; exact h9
        clear ht htl h9
        generalize bs t = tt at *
        go_wp2_with fail
        go_ret
        exact ⟨by rw [HD.out]; rfl, b1⟩
    · have hI : ¬ ((bs s).size : Int) ≤ 12 := by omega
      have hd2 : decide (s.length ≤ 12) = false := by simpa using h12
      rw [hd2] at HD
      have HB := Lib.hid (Below.refl w.heap.size w)
      generalize bs s = S at *
      clear htl hd2 h1 hsz TR
      go_enter Tryz.func162, Tryz.ntmps162
      go_wp2_with fail
      go_ret
      exact ⟨by rw [HD.out]; rfl, HB.out⟩
end Go.Proofs.YtppkeophochgiaaGreatDoor
/- Contracts of files.checked (whatever the function that it asks), files.Check, files.lines. -/
namespace Go.Proofs.YtppkeophochgiaaGreatDoor
open Go.RowKit
set_option linter.unusedVariables false

theorem bs_tl' (l : List UInt8) : (bs l).toList = l := by rw [ByteArray.toList_eq, bs_list]
theorem run_leq {P : Program} (t : TypeId) (a b : List UInt8) (w : World) : (binOp .leq t (.string (bs a)) (.string (bs b))).run P w = .ok (.bool (!ltL b a)) w := by
  have : (Op.bytesLess a b || a == b) = !ltL b a := by
    rcases ltL_tri a b with h | h | h
    · rw [ltL_asymm h]; have : Op.bytesLess a b = true := h; rw [this]; rfl
    · subst h; rw [ltL_irrefl]; simp
    · rw [h]
      have h1 : Op.bytesLess a b = false := ltL_asymm h
      have h2 : (a == b) = false := by simpa using (fun e => ltL_ne h e.symm)
      rw [h1, h2]; rfl
  simp only [binOp, Op.stringOp, bs_tl']
  simp [← this]
set_option maxRecDepth 100000 in
set_option maxHeartbeats 6400000 in
theorem flchecked_any (E : Nat → Addr) (l : List PL) (fn : Nat) (lb : Array Value) (eg : ∀ args w, (callFunc fn args).run Tryz.prog w = .ok (.enter fn args) w) (w : World) (hlen : l.length ≤ 1000000000) (hnm : ∀ x ∈ l, x.n.length ≤ maxLen)
    (hp : ∀ (W : World) (k : Nat) (h : k < l.length), Below w.heap.size w W → Calls Tryz.prog fn (#[.int .i64 k] ++ lb) W fun e w' => e = .returned (.agg #[.string (bs l[k].n), .int .i64 l[k].N, .int .u32 l[k].S]) ∧ Below W.heap.size W w')
    (hB : Has E w 2) (hN : Has E w 5) (hF : Has E w 8) (hO : Has E w 9) :
    Calls Tryz.prog 132 #[.int .i64 l.length, .func (.func fn) #[] lb] w fun e w' => ∃ v, e = .returned v ∧ FErr E w' v (lnFault l).1 (lnFault l).2 ∧ Below w.heap.size w w' := by
  have HB := Lib.hid hB
  have HN := Lib.hid hN
  have HF := Lib.hid hF
  have HO := Lib.hid hO
  have HP := Lib.hid hp
  have HNM := Lib.hid hnm
  have cF : w.cell? ⟨7, 0, none⟩ = some (errv (E 8)) := hF
  unfold errv at cF
  clear hB hN hF hO hp hnm
  by_cases hfull : 20 < l.length
  · have hI : (20 : Int) < l.length := by omega
    have FA := Lib.hid (lnFault_full hfull)
    go_enter Tryz.func132, Tryz.ntmps132
    go_wp2_with fail
    go_ret
    exact ⟨_, rfl, by rw [FA.out]; have := FErr.bare E w (c := 8) (by decide); unfold errv at this; exact this, Below.refl _ _⟩
  · have hI : ¬ (20 : Int) < l.length := by omega
    have FA := Lib.hid (lnFault_from hfull)
    clear cF
    go_enter Tryz.func132, Tryz.ntmps132
    go_wp2_with fail
    go_loopw [13, 5, 6, 7, 8] (fun i last _ _ _ wr => ∃ (k : Nat) (la : List UInt8), i = .int .i64 k ∧ k ≤ l.length ∧ last = .string (bs la) ∧ lnFault l = lnFrom k la (l.drop k) ∧ Below w.heap.size w wr) (fun i _ _ _ _ _ => l.length - (intOf i).toNat)
    case atStart => exact ⟨0, [], rfl, by omega, by unfold bs; rfl, FA.out, Below.refl _ _⟩
    case round =>
      obtain ⟨k, la, rfl, hk, rfl, hf, bel⟩ := hrel
      have HFA := Lib.hid hf
      clear hf
      by_cases hlt : k < l.length
      · have hltI : (k : Int) < l.length := by omega
        have CL := Lib.hid (HP.out wr k hlt bel)
        have HX := Lib.hid (HNM.out l[k] (List.getElem_mem _))
        have BAD := Lib.hid (fun c hc h0 => HFA.out.trans (lnFrom_bad (last := la) hlt (c := c) hc h0))
        have NEXT := Lib.hid (fun h0 => HFA.out.trans (lnFrom_step (last := la) hlt h0))
        generalize l[k] = x at CL HX BAD NEXT
        obtain ⟨xn, xN, xS⟩ := x
        simp only [] at CL HX BAD NEXT
        have KK := Lib.hid (show k + 1 ≤ l.length by omega)
        have NMX := Lib.hid (fun w' => flname_any xn w' HX.out)
        have HBEL := Lib.hid bel
        go_wp2_with fail
        refine CL.out.mono ?_
        rintro e w1 ⟨rfl, b1⟩
        have bel1 := below_trans' bel b1
        have belA := bel1.alloc bel1.size (.cells #[.string (bs xn), .int .i64 xN, .int .u32 xS] 179)
        clear bel
        go_wp2_with fail
        refine (NMX.out _).mono ?_
        rintro e w2 ⟨rfl, b2⟩
        have bel2 := below_trans' belA b2
        have p0 : w2.cell? ⟨w1.heap.size, 0, none⟩ = some (.string (bs xn)) := (b2.cell (p := ⟨w1.heap.size, 0, none⟩) (by simp)).trans (by simp)
        have p1 : w2.cell? ⟨w1.heap.size, 1, none⟩ = some (.int .i64 xN) := (b2.cell (p := ⟨w1.heap.size, 1, none⟩) (by simp)).trans (by simp)
        have c2 : w2.cell? ⟨0, 0, none⟩ = some (errv (E 2)) := HB.out.below bel2
        have c5 : w2.cell? ⟨4, 0, none⟩ = some (errv (E 5)) := HN.out.below bel2
        have c9 : w2.cell? ⟨8, 0, none⟩ = some (errv (E 9)) := HO.out.below bel2
        unfold errv at c2 c5 c9
        have HBE := Lib.hid bel2
        clear b1 bel1 belA b2 bel2
        cases hnb : nameB xn with
        | false =>
          have hb := Lib.hid (BAD.out 5 (lnBad_name hnb) (by decide))
          clear BAD NEXT c2 c9 p0 p1 hnb
          go_wp2_with fail
          go_ret
          exact ⟨_, rfl, FErr.new E _ _ (by decide) _ _ (by simp) _ hb.out, HBE.out.alloc HBE.out.size _⟩
        | true =>
          by_cases hbd : xN < 0 ∨ 4000 < xN
          · have hb := Lib.hid (BAD.out 2 (lnBad_bound hnb hbd) (by decide))
            clear BAD NEXT c5 c9 p0 hnb
            rcases (show xN < 0 ∨ ¬ xN < 0 ∧ 4000 < xN by omega) with h | ⟨h, h'⟩
            all_goals
              go_wp2_with fail
              go_ret
              exact ⟨_, rfl, FErr.new E _ _ (by decide) _ _ (by simp) _ hb.out, HBE.out.alloc HBE.out.size _⟩
          · have h1 : ¬ xN < 0 := by omega
            have h2 : ¬ 4000 < xN := by omega
            rcases Nat.eq_zero_or_pos k with hk0 | hkp
            · have hb := Lib.hid (NEXT.out (by rw [hk0]; exact lnBad_first hnb hbd))
              have hkI : ¬ (0 : Int) < k := by omega
              have hkD : decide ((0 : Int) < k) = false := by simpa using hkI
              clear BAD NEXT hk0 hbd hnb c2 c5 c9
              go_wp2_with fail
              go_roundw
              case rel => exact ⟨k + 1, xn, by go_num, KK.out, rfl, hb.out, HBE.out⟩
              case measure => simp [intOf]; omega
            · have hkb : (k == 0) = false := by simp; omega
              have hkI : (0 : Int) < k := by omega
              cases hor : ltL la xn with
              | true =>
                have hb := Lib.hid (NEXT.out (lnBad_next hnb hbd hor))
                have hle : ∀ w, (binOp .leq 9 (.string (bs xn)) (.string (bs la))).run Tryz.prog w = .ok (.bool false) w := fun w => by rw [run_leq, hor]; rfl
                clear BAD NEXT hbd hnb hor hkb c2 c5 c9
                go_wp2_with fail
                go_roundw
                case rel => exact ⟨k + 1, xn, by go_num, KK.out, rfl, hb.out, HBE.out⟩
                case measure => simp [intOf]; omega
              | false =>
                have hb := Lib.hid (BAD.out 9 (by rw [hkb]; exact lnBad_order hnb hbd hor) (by decide))
                have hle : ∀ w, (binOp .leq 9 (.string (bs xn)) (.string (bs la))).run Tryz.prog w = .ok (.bool true) w := fun w => by rw [run_leq, hor]; rfl
                clear BAD NEXT hbd hnb hor hkb c2 c5
                go_wp2_with fail
                go_ret
                exact ⟨_, rfl, FErr.new E _ _ (by decide) _ _ (by simp) _ hb.out, HBE.out.alloc HBE.out.size _⟩
      · have hltI : ¬ (k : Int) < l.length := by omega
        have hb := Lib.hid (HFA.out.trans (lnFrom_end (last := la) (by omega : l.length ≤ k)))
        go_wp2_with fail
        go_ret
        exact ⟨_, rfl, by rw [hb.out]; exact FErr.nil E _, bel⟩
end Go.Proofs.YtppkeophochgiaaGreatDoor
