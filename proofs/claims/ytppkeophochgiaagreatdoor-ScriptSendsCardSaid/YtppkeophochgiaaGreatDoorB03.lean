/- Texts of one proof, one behind the other: Err, Laid, LaidT, Num. -/
import Derived.Test.YtppkeophochgiaaGreatDoorRows
import Derived.Test.YtppkeophochgiaaGreatDoorB02
import Derived.Test.YtppkeophochgiaaGreatDoorB01
import Derived.Stop.LaidTwo
import Derived.MakeChecks
import Derived.IntWalk
import Derived.Outline
/- The package-level errors as a walk meets them: each variable's cell holds a pointer to an errors.errorString. -/
namespace Go.Proofs.YtppkeophochgiaaGreatDoor
open Go.RowKit

def errv (a : Addr) : Value := .iface 345 (.pointer (some a))
/-- an error by its number (0: nil), where E tells each sentinel's place -/
def ev (E : Nat → Addr) (c : Nat) : Value := if c = 0 then .nilIface else errv (E c)
theorem ev_zero (E : Nat → Addr) : ev E 0 = .nilIface := rfl
theorem ev_pos (E : Nat → Addr) {c : Nat} (h : c ≠ 0) : ev E c = .iface 345 (.pointer (some (E c))) := by simp [ev, h, errv]
theorem ev_is (E : Nat → Addr) {c : Nat} (h : c ≠ 0) : ev E c = errv (E c) := by simp [ev, h]
/-- the variable of each number -/
def gOf : Nat → Nat
  | 1 => 1
  | 2 => 0
  | 3 => 2
  | 4 => 3
  | 5 => 4
  | 6 => 5
  | 7 => 6
  | 8 => 7
  | 9 => 8
  | 10 => 9
  | 11 => 10
  | 12 => 11
  | 13 => 17
  | 14 => 18
  | _ => 999
/-- the variable of error c holds its pointer -/
def Has (E : Nat → Addr) (w : World) (c : Nat) : Prop := w.cell? ⟨gOf c, 0, none⟩ = some (errv (E c))
theorem Has.below {E : Nat → Addr} {w w' : World} {c : Nat} (h : Has E w c) (hb : Below w.heap.size w w') : Has E w' c :=
  (hb.cell (p := ⟨gOf c, 0, none⟩) (World.block_lt_of_cell? w _ h)).trans h
theorem Has.drewN {E : Nat → Addr} {w : World} {c : Nat} (h : Has E w c) (n : Nat) : Has E (w.drewN n) c := h
theorem Has.drew {E : Nat → Addr} {w : World} {c : Nat} (h : Has E w c) : Has E w.drew c := h
theorem Has.alloc {E : Nat → Addr} {w : World} {c : Nat} (h : Has E w c) (o : Obj) : Has E (w.alloc o) c := h.below ((Below.refl _ w).alloc (Nat.le_refl _) o)
/-- a byte's cell -/
def bv (c : UInt8) : Value := .int .u8 c.toNat
/-- a row of bytes of the call's own, as a text -/
theorem conv_owned {P : Program} {w : World} {base : Nat} {E T D : TypeId} {g cap n : Nat} {l : List UInt8} (h : w.ownsRow base E 1 (.slice (some ⟨g, 0, none⟩) n cap) n (l.map bv))
    (hs : P.underlying T = some (.slice E)) (he : P.underlying E = some (.int .u8)) (hd : P.underlying D = some .string) :
    (convert T D (.slice (some ⟨g, 0, none⟩) n cap)).run P w = .ok (.string (bs l)) w := by
  have hl : l.length = n := by have := h.1; simpa using this
  have hc := h.cells (g := g) rfl
  have := run_convert_bytes_back (P := P) w T D E ⟨g, 0, none⟩ cap l hs he hd (fun j hj => by
    have := hc j (bv l[j]) (by simp [hj])
    simpa [bv] using this)
  rw [hl] at this
  rw [this]
  congr 2
  exact eq_bs (by simp)
attribute [irreducible] ev errv
end Go.Proofs.YtppkeophochgiaaGreatDoor
/- What a row's listed errors give a walk: each variable's cell, the pointees, that they are different. -/
namespace Go.Proofs.YtppkeophochgiaaGreatDoor
open Go.RowKit Go.ChangeShapes

def nameOf : Nat → String
  | 1 => "packhorse/api.ErrText"
  | 2 => "packhorse/api.ErrBound"
  | 3 => "packhorse/api.ErrShape"
  | 4 => "packhorse/api.ErrKind"
  | 5 => "packhorse/api.ErrName"
  | 6 => "packhorse/api.ErrNone"
  | 7 => "packhorse/api.ErrExist"
  | 8 => "packhorse/api.ErrFull"
  | 9 => "packhorse/api.ErrOrder"
  | 10 => "packhorse/api.ErrSum"
  | 11 => "packhorse/api.ErrStale"
  | 12 => "packhorse/api.ErrOff"
  | 13 => "strconv.ErrSyntax"
  | 14 => "strconv.ErrRange"
  | _ => ""
def textOf : Nat → List UInt8
  | 1 => [112, 97, 99, 107, 104, 111, 114, 115, 101, 58, 32, 116, 101, 120, 116]
  | 2 => [112, 97, 99, 107, 104, 111, 114, 115, 101, 58, 32, 98, 111, 117, 110, 100]
  | 3 => [112, 97, 99, 107, 104, 111, 114, 115, 101, 58, 32, 115, 104, 97, 112, 101]
  | 4 => [112, 97, 99, 107, 104, 111, 114, 115, 101, 58, 32, 107, 105, 110, 100]
  | 5 => [112, 97, 99, 107, 104, 111, 114, 115, 101, 58, 32, 110, 97, 109, 101]
  | 6 => [112, 97, 99, 107, 104, 111, 114, 115, 101, 58, 32, 110, 111, 110, 101]
  | 7 => [112, 97, 99, 107, 104, 111, 114, 115, 101, 58, 32, 101, 120, 105, 115, 116]
  | 8 => [112, 97, 99, 107, 104, 111, 114, 115, 101, 58, 32, 102, 117, 108, 108]
  | 9 => [112, 97, 99, 107, 104, 111, 114, 115, 101, 58, 32, 111, 114, 100, 101, 114]
  | 10 => [112, 97, 99, 107, 104, 111, 114, 115, 101, 58, 32, 115, 117, 109]
  | 11 => [112, 97, 99, 107, 104, 111, 114, 115, 101, 58, 32, 115, 116, 97, 108, 101]
  | 12 => [112, 97, 99, 107, 104, 111, 114, 115, 101, 58, 32, 111, 102, 102]
  | 13 => [105, 110, 118, 97, 108, 105, 100, 32, 115, 121, 110, 116, 97, 120]
  | 14 => [118, 97, 108, 117, 101, 32, 111, 117, 116, 32, 111, 102, 32, 114, 97, 110, 103, 101]
  | _ => []
/-- one listed error -/
def entry (c : Nat) : String × DataW Unit := (nameOf c, .iface "*errors.errorString" (.ptr (.agg [.lit (.string (textOf c))])))
/-- the pointee of a sentinel: a row of cells, not frozen; its cell holds a text -/
def Sent (W : World) (a : Addr) : Prop := (∃ cs t, W.heap[a.block]? = some (.cells cs t (0, 0))) ∧ ∃ s, W.cell? a = some (.string s)

theorem star : "*" ++ "errors.errorString" = "*errors.errorString" := by decide
theorem rowES (u : TypeId) (h : Tryz.prog.typeName? 3 u = some "*errors.errorString") : u = 345 :=
  typeName_ptr_named (nm := "errors.errorString") (by rw [star]; kernel_rfl) (by kernel_rfl) (by decide) u (by rw [star]; exact h)
theorem cellsES : Tryz.prog.cellsOf 347 = 1 := by kernel_rfl
theorem cellsStr : Tryz.prog.cellsOf 9 = 1 := by kernel_rfl

/-- each code's variable is there -/
noncomputable def known (l : List Nat) : Bool := l.all fun c => Tryz.prog.globalNamed (nameOf c) == some (gOf c) && (Tryz.prog.globals[gOf c]?).map (·.type) == some 41

end Go.Proofs.YtppkeophochgiaaGreatDoor
/- What a row's listed errors give a walk, with their texts. -/
namespace Go.Proofs.YtppkeophochgiaaGreatDoor
open Go.RowKit Go.ChangeShapes
set_option maxRecDepth 100000 in
theorem errs_placesT {W : World} : ∀ (l : List Nat) (ps : List MemPlace), known l = true → l.Nodup →
    DataW.LaidVars Tryz.prog W (l.map entry) ps → ps.Nodup →
    (∀ b off, MemPlace.cell b off ∈ ps → (∃ c t, W.heap[b]? = some (.cells c t (0, 0))) ∧ ∀ u v, W.cell? ⟨b, off, none⟩ = some (.iface u v) → Value.okWide Tryz.prog W .any 0 u v) →
    ∃ E : Nat → Addr, (∀ c ∈ l, Has E W c ∧ Sent W (E c) ∧ MemPlace.cell (E c).block (E c).off ∈ ps ∧ W.cell? (E c) = some (.string (bs (textOf c)))) ∧ ∀ c ∈ l, ∀ c' ∈ l, c ≠ c' → E c ≠ E c'
  | [], ps, _, _, _, _, _ => ⟨fun _ => ⟨0, 0, none⟩, fun _ h => (by cases h), fun _ h => (by cases h)⟩
  | c :: l, ps, hk, hl, h, hnd, hrows => by
    obtain ⟨g0, t0, cs0, f0, p0, q0, hg0, ht0, hv0, hd0, hr, rfl⟩ := h
    have hk' : Tryz.prog.globalNamed (nameOf c) = some (gOf c) ∧ (Tryz.prog.globals[gOf c]?).map (·.type) = some 41 ∧ known l = true := by
      simp only [known, List.all_cons, Bool.and_eq_true, beq_iff_eq] at hk
      exact ⟨hk.1.1, hk.1.2, hk.2⟩
    obtain ⟨k1, k2, k3⟩ := hk'
    generalize hgg : gOf c = G at k1 k2
    obtain ⟨E, hE1, hE2⟩ := errs_placesT l q0 k3 (List.nodup_cons.1 hl).2 hr (List.Nodup.sublist (List.sublist_append_right _ _) hnd) (fun b off hm => hrows b off (List.mem_append_right _ hm))
    obtain rfl := Option.some.inj (k1.symm.trans hg0)
    obtain rfl := Option.some.inj (k2.symm.trans ht0)
    have hc0 : c ∉ l := (List.nodup_cons.1 hl).1
    obtain ⟨l0⟩ := cs0
    have ok0 : ∀ u v, l0 = [.iface u v] → Value.okWide Tryz.prog W .any 0 u v := fun u v e => by
      subst e
      exact (hrows G 0 (by simp [MemPlace.row])).2 u v (by simpa using World.var?_cell hg0 hv0 0)
    obtain ⟨a0, s0, rfl, hca, hs0, hz0, rfl⟩ := errorString_of_trod Tryz.underlying41 rowES Tryz.underlying345 Tryz.underlying347 rfl rfl Tryz.underlying9 cellsES cellsStr hd0 ok0
    have hmem : MemPlace.cell a0.block a0.off ∈ MemPlace.row ⟨G, 0, none⟩ 1 ++ MemPlace.row a0 1 ++ q0 := by simp [MemPlace.row]
    have hout : ∀ c' ∈ l, E c' ≠ a0 := by
      intro c' hc' e
      have := (hE1 c' hc').2.2.1
      rw [e] at this
      rw [List.nodup_append] at hnd
      exact hnd.2.2 _ (by simp [MemPlace.row]) _ this rfl
    refine ⟨fun x => if x = c then a0 else E x, ?_, ?_⟩
    · intro x hx
      by_cases e : x = c
      · subst e
        simp only [if_true]
        refine ⟨?_, ⟨(hrows a0.block a0.off hmem).1, s0, hca⟩, hmem, by rw [hca, eq_bs hs0]⟩
        have := World.var?_cell hg0 hv0 0
        unfold Has
        rw [hgg]
        simpa [errv] using this
      · have hx' : x ∈ l := by
          rcases List.mem_cons.1 hx with h | h
          · exact absurd h e
          · exact h
        simp only [if_neg e]
        have := hE1 x hx'
        refine ⟨?_, this.2.1, List.mem_append_right _ this.2.2.1, this.2.2.2⟩
        have h1 := this.1
        unfold Has at h1 ⊢
        simpa [if_neg e] using h1
    · intro x hx y hy hxy
      by_cases e : x = c
      · subst e
        have hy' : y ∈ l := by
          rcases List.mem_cons.1 hy with h | h
          · exact absurd h.symm hxy
          · exact h
        simp only [if_true, if_neg (Ne.symm hxy)]
        exact (hout y hy').symm
      · have hx' : x ∈ l := by
          rcases List.mem_cons.1 hx with h | h
          · exact absurd h e
          · exact h
        by_cases e' : y = c
        · subst e'
          simp only [if_neg e, if_true]
          exact hout x hx'
        · have hy' : y ∈ l := by
            rcases List.mem_cons.1 hy with h | h
            · exact absurd h e'
            · exact h
          simp only [if_neg e, if_neg e']
          exact hE2 x hx' y hy' hxy

/-- WHAT A LIST OF ERRORS GIVES, and what each tells -/
theorem errs_of_laidT {W : World} {l : List Nat} (h : laidMet Tryz.prog (l.map entry) W) (hk : known l = true) (hl : l.Nodup) :
    ∃ E : Nat → Addr, (∀ c ∈ l, Has E W c ∧ Sent W (E c)) ∧ (∀ c ∈ l, ∀ c' ∈ l, c ≠ c' → E c ≠ E c') ∧ ∀ c ∈ l, W.cell? (E c) = some (.string (bs (textOf c))) := by
  obtain ⟨ps, h1, h2, h3⟩ := h
  obtain ⟨E, e1, e2⟩ := errs_placesT l ps hk hl h1 h2 h3
  exact ⟨E, fun c hc => ⟨(e1 c hc).1, (e1 c hc).2.1⟩, e2, fun c hc => (e1 c hc).2.2.2⟩
end Go.Proofs.YtppkeophochgiaaGreatDoor
/- Contracts of the package num: Put, PutText, Get, GetText. -/
namespace Go.Proofs.YtppkeophochgiaaGreatDoor
open Go.RowKit

theorem ret3 {a a' b b' c c' : Value} (h1 : a = a') (h2 : b = b') (h3 : c = c') : Ending.returned (.tuple #[a, b, c]) = .returned (.tuple #[a', b', c']) := by rw [h1, h2, h3]
theorem ret2 {a a' b b' : Value} (h1 : a = a') (h2 : b = b') : Ending.returned (.tuple #[a, b]) = .returned (.tuple #[a', b']) := by rw [h1, h2]

theorem pow7 (k : Nat) : ((2 : Int) ^ (7 * k)) = ((128 ^ k : Nat) : Int) := by
  rw [Int.pow_mul]; simp
theorem pow128 (k : Nat) (h : k < 6) : 128 ^ k ≤ 34359738368 := by
  have := Nat.pow_le_pow_right (show 0 < 128 by decide) (show k ≤ 5 by omega)
  simpa using this

set_option maxRecDepth 100000 in
set_option maxHeartbeats 3200000 in
theorem get_any (E : Nat → Addr) (s : ByteArray) (w : World) (hs : s.size ≤ 1000000000) (hT : Has E w 1) (hB : Has E w 2) :
    Calls Tryz.prog 248 #[.string s] w fun e w' => e = .returned (.tuple #[.int .i64 (gN s.data.toList), .string (bs (gR s.data.toList)), ev E (gC s.data.toList)]) ∧ Drew w w' := by
  have hl : s.data.toList.length = s.size := by simp
  have c1 : w.cell? ⟨1, 0, none⟩ = some (errv (E 1)) := hT
  have c2 : w.cell? ⟨0, 0, none⟩ = some (errv (E 2)) := hB
  clear hT hB
  have HL := Lib.hid hl
  clear hl
  have fin : ∀ (n : Nat) (r : List UInt8) (c : Nat), getL s.data.toList = (n, r, c) → gN s.data.toList = n ∧ gR s.data.toList = r ∧ gC s.data.toList = c := by
    intro n r c h; simp [gN, gR, gC, h]
  have FIN := Lib.hid fin
  clear fin
  rcases Nat.lt_or_ge 6 s.size with h6 | h6
  all_goals
    have h6I : (6 : Int) < s.size ∨ (s.size : Int) ≤ 6 := by omega
    go_enter Tryz.func248, Tryz.ntmps248
    go_wp2_with fail
    go_loopw [5, 6, 7, 11] (fun n _ _ i wr => ∃ k acc : Nat, k ≤ s.size ∧ k ≤ 6 ∧ i = .int .i64 k ∧ n = .int .i64 acc ∧ acc < 128 ^ k ∧ getL s.data.toList = getA (6 - k) k acc (s.data.toList.drop k) ∧ wr = w) (fun _ _ _ i _ => 6 - (intOf i).toNat)
    case atStart => exact ⟨0, 0, by omega, by omega, rfl, rfl, by decide, by simp [getL], rfl⟩
    case round =>
      obtain ⟨k, acc, hk, hk6, rfl, rfl, hacc, hget, rfl⟩ := hrel
      by_cases hlt : k < s.size ∧ k < 6
      · obtain ⟨hlt1, hlt2⟩ := hlt
        have hI1 : (k : Int) < 6 := by omega
        have hcb : s[k].toNat < 256 := s[k].toNat_lt
        have hdrop : s.data.toList.drop k = s[k] :: s.data.toList.drop (k + 1) := by
          rw [List.drop_eq_getElem_cons (by rw [HL.out]; exact hlt1)]; rfl
        have h5 : 6 - k = (5 - k) + 1 := by omega
        rw [hdrop, h5] at hget
        have HG := Lib.hid hget
        clear hget hdrop h5
        have hp := pow128 k hlt2
        have hx1 : s[k].toNat % 128 * 128 ^ k ≤ 127 * 34359738368 := Nat.mul_le_mul (by omega) hp
        have hx2 : ((s[k].toNat : Int) % 128 * 2 ^ (7 * k)) = ((s[k].toNat % 128 * 128 ^ k : Nat) : Int) := by rw [pow7]; simp
        have hx3 : s[k].toNat % 128 * 128 ^ k < 128 ^ (k + 1) - 128 ^ k + 1 := by
          rw [Nat.pow_succ]
          have : s[k].toNat % 128 * 128 ^ k ≤ 127 * 128 ^ k := Nat.mul_le_mul_right _ (by omega)
          omega
        obtain ⟨x, hx⟩ : ∃ x, x = s[k].toNat % 128 * 128 ^ k := ⟨_, rfl⟩
        rw [← hx] at hx1 hx2 hx3
        have hacc2 : acc + x < 128 ^ (k + 1) := by
          have : 128 ^ k ≤ 128 ^ (k + 1) := Nat.pow_le_pow_right (by decide) (by omega)
          omega
        have hacc3 : acc ≤ 34359738368 := by omega
        have HX := Lib.hid hx
        have HA := Lib.hid hacc2
        clear hx hx3 hacc hacc2 hp
        by_cases h128 : 128 ≤ s[k].toNat
        · have h128I : (128 : Int) ≤ s[k].toNat := by omega
          go_wp2_with fail
          go_roundw
          case rel => exact ⟨k + 1, acc + x, by omega, by omega, by go_num, by go_num, HA.out, by rw [HG.out, getA_more h128, HX.out]; congr 1; omega, by first | rfl | trivial⟩
          case measure => simp [intOf]; omega
        · have h128I : (s[k].toNat : Int) < 128 := by omega
          have hlt3 : s[k].toNat < 128 := by omega
          by_cases hzk : s[k].toNat = 0 ∧ 0 < k
          · obtain ⟨hz, hk0⟩ := hzk
            have hg := FIN.out _ _ _ (HG.out.trans (getA_zero hz hk0))
            have HGG := Lib.hid hg
            clear hg
            go_wp2_with fail
            go_quiet (fail)
            go_wp2_with fail
            go_ret3
            exact ⟨ret3 (by rw [HGG.out.1]; rfl) (by rw [HGG.out.2.1, bs_nil]; rfl) (by rw [HGG.out.2.2, ev_is E (by decide)]; rfl), Drew.drewN _ _⟩
          · have hor : s[k].toNat ≠ 0 ∨ s[k].toNat = 0 ∧ ¬ 0 < k := by omega
            have w1 : IntKind.i64.wrap ((k : Int) + 1) = (k : Int) + 1 := IntWalk.i64_in _ (by omega)
            have w2 : ((k : Int) + 1).toNat = k + 1 := by omega
            have w3 : (0 : Int) ≤ (k : Int) + 1 := by omega
            have w4 : (k : Int) + 1 ≤ s.size := by omega
            rcases hor with hz | ⟨hz, hk0⟩
            · by_cases hov : 1099511627776 < acc + x
              · have hovI : (1099511627776 : Int) < (acc : Int) + x := by omega
                have hg := FIN.out _ _ _ (HG.out.trans (getA_over hlt3 hzk (by rw [← HX.out]; exact hov)))
                have HGG := Lib.hid hg
                clear hg hzk
                go_wp2_with fail
                go_quiet (fail)
                go_wp2_with fail
                go_ret3
                exact ⟨ret3 (by rw [HGG.out.1]; rfl) (by rw [HGG.out.2.1, bs_nil]; rfl) (by rw [HGG.out.2.2, ev_is E (by decide)]; rfl), Drew.drewN _ _⟩
              · have hovI : ¬ (1099511627776 : Int) < (acc : Int) + x := by omega
                have hg := FIN.out _ _ _ (HG.out.trans (getA_done hlt3 hzk (by rw [← HX.out]; exact hov)))
                have HGG := Lib.hid hg
                clear hg hzk
                go_wp2_with fail
                go_quiet (fail)
                go_wp2_with fail
                go_ret3
                exact ⟨ret3 (by rw [HGG.out.1, ← HX.out]; exact congrArg (Value.int .i64) (by omega)) (by rw [HGG.out.2.1]; exact congrArg Value.string (bs_drop s (k + 1))) (by rw [HGG.out.2.2, ev_zero]; rfl), Drew.drewN _ _⟩
            · have hx0 : x = 0 := by rw [HX.out, hz]; simp
              have hov : ¬ 1099511627776 < acc + x := by omega
              have hovI : ¬ (1099511627776 : Int) < (acc : Int) := by omega
              have hg := FIN.out _ _ _ (HG.out.trans (getA_done hlt3 hzk (by rw [← HX.out]; exact hov)))
              rw [← HX.out, hx0] at hg
              have HGG := Lib.hid hg
              clear hg hzk hov hx0
              go_wp2_with fail
              go_quiet (fail)
              go_wp2_with fail
              go_ret3
              exact ⟨ret3 (by rw [HGG.out.1]; rfl) (by rw [HGG.out.2.1]; exact congrArg Value.string (bs_drop s (k + 1))) (by rw [HGG.out.2.2, ev_zero]; rfl), Drew.drewN _ _⟩
      · have hge : ¬ (k : Int) < 6 ∨ ¬ (k : Int) < s.size := by omega
        have hg : gN s.data.toList = 0 ∧ gR s.data.toList = [] ∧ gC s.data.toList = 1 := by
          apply FIN.out
          rw [hget]
          by_cases hk6' : k = 6
          · rw [hk6']; exact getA_end _ _ _
          · rw [List.drop_eq_nil_of_le (by rw [HL.out]; omega)]; exact getA_nil _ _ _
        have HGG := Lib.hid hg
        have hks : k = 6 ∨ k = s.size := by omega
        clear hg hget hacc
        go_wp2_with fail
        all_goals first
          | (go_quiet (fail); go_wp2_with fail; go_ret3; exact ⟨ret3 (by rw [HGG.out.1]; rfl) (by rw [HGG.out.2.1, bs_nil]; rfl) (by rw [HGG.out.2.2, ev_is E (by decide)]; rfl), Drew.drewN _ _⟩)
          | (exfalso; omega)

theorem owns_base {w : World} {base : Nat} {e : TypeId} {size : Nat} {v : Value} {n : Nat} {xs : List Value} (h : w.ownsRow base e size v n xs) {j : Nat} (hj : v.ownBlock = some j) : base ≤ j := by
  obtain ⟨_, h2⟩ := h
  rcases h2 with ⟨rfl, h2⟩ | ⟨g, cap, cur, hv, hg, _⟩
  · simp [Value.ownBlock] at hj
  · subst hv; simp [Value.ownBlock] at hj; omega

theorem infoByte : (Tryz.prog.info? 5).map (fun i => (i.zero, i.size, i.bytes)) = some (some (.int .u8 0), 1, 1) := by kernel_rfl

set_option maxRecDepth 100000 in
set_option maxHeartbeats 1600000 in
theorem put_yes (n : Nat) (w : World) (h : n ≤ 1099511627776) :
    Calls Tryz.prog 264 #[.int .i64 n] w fun e w' => e = .returned (.tuple #[.string (bs (num n)), .nilIface]) ∧ Below w.heap.size w w' := by
  obtain ⟨i0, hi, hz0, hz1, hz2⟩ := info_parts infoByte
  have hI : ¬ (1099511627776 : Int) < n := by omega
  go_enter Tryz.func264, Tryz.ntmps264
  go_wp2_with fail
  go_loopw [0, 4] (fun m v wr => ∃ (pre : List UInt8) (k m' : Nat), m = .int .i64 m' ∧ pre.length + k = 6 ∧ m' < 128 ^ (k + 1) ∧ m' ≤ 1099511627776 ∧ num n = pre ++ numB k m' ∧ wr.ownsRow w.heap.size 5 1 v pre.length (pre.map bv) ∧ Below w.heap.size w wr)
    (fun m _ _ => (intOf m).toNat)
  case atStart => exact ⟨[], 6, n, rfl, rfl, by omega, h, by simp [num], World.ownsRow_nil _ _ _ _, Below.refl _ _⟩
  case round =>
    obtain ⟨pre, k, m, rfl, hk, hm, hmb, hnum, hown, hbel⟩ := hrel
    have HN := Lib.hid hnum
    clear hnum
    by_cases h128 : 128 ≤ m
    · have h128I : (128 : Int) ≤ m := by omega
      have hbyte : ((UInt8.ofNat (m % 128 + 128)).toNat : Int) = (m : Int) % 128 + 128 := by rw [byte_ofNat _ (by omega)]; omega
      have HB := Lib.hid hbyte
      clear hbyte
      go_wp2_with (at_builtin; refine wpList_append_own _ rfl _ _ 107 rfl w.heap.size 5 i0 (.int .u8 0) 1 1 Tryz.underlying107 hi hz0 hz1 hz2 rfl (by decide) _ _ _ rfl (hown.alloc _) ⟨wr.heap.size, 0, none⟩ 1 1 [.int .u8 ((m : Int) % 128 + 128)] rfl rfl (one_news (by simp)) (one_cell rfl) (by unfold maxLen; omega) (by omega) (by have := hbel.size; simp; omega) ?_; intro v' w1 hown' hgrow _)
      have hk0 : 0 < k := by
        rcases Nat.eq_zero_or_pos k with h0 | h0
        · subst h0; simp at hm; omega
        · exact h0
      refine ⟨⟨pre ++ [UInt8.ofNat (m % 128 + 128)], k - 1, m / 128, congrArg (Value.int .i64) (by omega), by simp; omega, ?_, by omega, ?_, ?_, ?_⟩, by simp [intOf]; omega⟩
      · have : 128 ^ (k + 1) = 128 ^ (k - 1 + 1) * 128 := by rw [← Nat.pow_succ]; congr 1; omega
        exact Nat.div_lt_of_lt_mul (by omega)
      · rw [HN.out]
        obtain ⟨j, rfl⟩ : ∃ j, k = j + 1 := ⟨k - 1, by omega⟩
        rw [numB_big j m h128]; simp
      · have e : (pre ++ [UInt8.ofNat (m % 128 + 128)]).map bv = pre.map bv ++ [Value.int .u8 ((m : Int) % 128 + 128)] := by
          simp only [List.map_append, List.map_cons, List.map_nil, bv, HB.out]
        rw [e, List.length_append]; exact hown'
      · refine (hbel.alloc hbel.size _).grown hgrow (Nat.le_trans hbel.size (by simp)) ?_
        intro j hj
        exact owns_base hown hj
    · have h128I : ¬ (128 : Int) ≤ m := by omega
      have hbyte : ((UInt8.ofNat m).toNat : Int) = (m : Int) := by rw [byte_ofNat _ (by omega)]
      have HB := Lib.hid hbyte
      clear hbyte
      have hlast : num n = pre ++ [UInt8.ofNat m] := by rw [HN.out, numB_small k m (by omega)]
      have HL := Lib.hid hlast
      clear hlast hm
      go_wp2_with (at_builtin; refine wpList_append_own _ rfl _ _ 107 rfl w.heap.size 5 i0 (.int .u8 0) 1 1 Tryz.underlying107 hi hz0 hz1 hz2 rfl (by decide) _ _ _ rfl (hown.alloc _) ⟨wr.heap.size, 0, none⟩ 1 1 [.int .u8 (m : Int)] rfl rfl (one_news (by simp)) (one_cell rfl) (by unfold maxLen; omega) (by omega) (by have := hbel.size; simp; omega) ?_; intro v' w1 hown' hgrow _; obtain ⟨g', cap', rfl, hg1, hg2, hg3, hg4, hg5, hg6⟩ := owns_open hown' (by omega); have hconv := conv_owned (l := pre ++ [UInt8.ofNat m]) (T := 107) (D := 9) (by simp only [List.map_append, List.map_cons, List.map_nil, bv, HB.out]; exact hown') Tryz.underlying107 Tryz.underlying5 Tryz.underlying9)
      go_ret2
      refine ⟨ret2 (by rw [HL.out]; rfl) rfl, ?_⟩
      refine (hbel.alloc hbel.size _).grown hgrow (Nat.le_trans hbel.size (by simp)) ?_
      intro j hj
      exact owns_base hown hj

set_option maxRecDepth 100000 in
set_option maxHeartbeats 1600000 in
theorem put_no (E : Nat → Addr) (n : Int) (w : World) (h : ¬ (0 ≤ n ∧ n ≤ 1099511627776)) (hB : Has E w 2) :
    Calls Tryz.prog 264 #[.int .i64 n] w fun e w' => e = .returned (.tuple #[.string (bs []), ev E 2]) ∧ Below w.heap.size w w' := by
  have c2 : w.cell? ⟨0, 0, none⟩ = some (errv (E 2)) := hB
  clear hB
  have h1 : n < 0 ∨ ¬ n < 0 ∧ 1099511627776 < n := by omega
  rcases h1 with h0 | ⟨h0, h1⟩
  all_goals
    go_enter Tryz.func264, Tryz.ntmps264
    go_wp2_with fail
    go_quiet (fail)
    go_wp2_with fail
    go_ret2
    exact ⟨ret2 (by rw [bs_nil]; rfl) (by rw [ev_is E (by decide)]; rfl), Drew.below (Drew.drewN _ _) _⟩

theorem put_any (E : Nat → Addr) (n : Int) (w : World) (hB : Has E w 2) :
    Calls Tryz.prog 264 #[.int .i64 n] w fun e w' => e = .returned (.tuple #[.string (bs (putL n)), ev E (putC n)]) ∧ Below w.heap.size w w' := by
  by_cases h : 0 ≤ n ∧ n ≤ 1099511627776
  · obtain ⟨k, rfl⟩ : ∃ k : Nat, n = k := ⟨n.toNat, by omega⟩
    rw [(putC_yes h).1, (putC_yes h).2, ev_zero]
    exact put_yes k w (by omega)
  · rw [(putC_no h).1, (putC_no h).2]
    exact put_no E n w h hB

set_option maxRecDepth 100000 in
set_option maxHeartbeats 1600000 in
theorem ptext_any (E : Nat → Addr) (s : ByteArray) (w : World) (hs : s.size ≤ 1000000000) (hB : Has E w 2) :
    Calls Tryz.prog 252 #[.string s] w fun e w' => e = .returned (.tuple #[.string (bs (ptL s.data.toList)), ev E (ptC s.data.toList)]) ∧ Below w.heap.size w w' := by
  have c2 : w.cell? ⟨0, 0, none⟩ = some (errv (E 2)) := hB
  have HB := Lib.hid hB
  clear hB
  by_cases h : s.size ≤ 20000
  · have hI : ¬ (20000 : Int) < s.size := by omega
    have hp := putC_yes (n := (s.size : Int)) (by omega)
    have hq := ptC_yes (l := s.data.toList) (by simpa using h)
    have HP := Lib.hid hp
    have HQ := Lib.hid hq
    clear hp hq
    have hcat : ¬ 9223372036854775807 < (num s.size).length + s.size := by have := num_len s.size; omega
    go_enter Tryz.func252, Tryz.ntmps252
    go_wp2_with (go_at_call 264; refine (put_any E s.size _ HB.out).mono ?_; rintro e w' ⟨rfl, hb⟩; rw [HP.out.1, HP.out.2, ev_zero])
    go_ret2
    exact ⟨ret2 (by rw [HQ.out.2]; exact congrArg Value.string (eq_bs (by simp))) (by rw [HQ.out.1, ev_zero]; rfl), hb⟩
  · have hI : (20000 : Int) < s.size := by omega
    have hq := ptC_no (l := s.data.toList) (by simpa using h)
    have HQ := Lib.hid hq
    clear hq
    go_enter Tryz.func252, Tryz.ntmps252
    go_wp2_with fail
    go_quiet (fail)
    go_wp2_with fail
    go_ret2
    exact ⟨ret2 (by rw [HQ.out.2, bs_nil]; rfl) (by rw [HQ.out.1, ev_is E (by decide)]; rfl), Drew.below (Drew.drewN _ _) _⟩

set_option maxRecDepth 100000 in
set_option maxHeartbeats 3200000 in
theorem gtext_any (E : Nat → Addr) (s : ByteArray) (w : World) (hs : s.size ≤ 1000000000) (hT : Has E w 1) (hB : Has E w 2) :
    Calls Tryz.prog 249 #[.string s] w fun e w' => e = .returned (.tuple #[.string (bs (tT s.data.toList)), .string (bs (tR s.data.toList)), ev E (tC s.data.toList)]) ∧ Drew w w' := by
  have hg := gC_cases s.data.toList
  have hgl := gR_len s.data.toList
  have hsl : s.data.toList.length = s.size := by simp
  have c1 : w.cell? ⟨1, 0, none⟩ = some (errv (E 1)) := hT
  have c2 : w.cell? ⟨0, 0, none⟩ = some (errv (E 2)) := hB
  obtain ⟨L, hL⟩ : ∃ L, L = s.data.toList := ⟨_, rfl⟩
  rw [← hL] at hg hgl hsl
  rw [← hL]
  have HLL := Lib.hid hL
  have GET : Calls Tryz.prog 248 #[.string s] w fun e w' => e = .returned (.tuple #[.int .i64 (gN L), .string (bs (gR L)), ev E (gC L)]) ∧ Drew w w' := by rw [hL]; exact get_any E s w hs hT hB
  clear hT hB hL
  have HG := Lib.hid hgl
  by_cases h0 : gC L = 0
  · clear hg
    rw [h0, ev_zero] at GET
    obtain ⟨N, hN⟩ : ∃ N, N = gN L := ⟨_, rfl⟩
    obtain ⟨R, hR⟩ : ∃ R, R = gR L := ⟨_, rfl⟩
    rw [← hN, ← hR] at GET
    rw [← hR] at hgl
    by_cases h1 : 20000 < N
    · have h1I : (20000 : Int) < N := by omega
      have hc : tC L = 2 := by simp [tC, h0, ← hN, h1]
      have hrest : tT L = [] ∧ tR L = [] := by simp [tT, tR, hc]
      have HC := Lib.hid hc
      have HR := Lib.hid hrest
      clear hc hrest hN hR
      go_enter Tryz.func249, Tryz.ntmps249
      go_wp2_with (go_at_call 248; refine GET.mono ?_; rintro e w' ⟨rfl, hb⟩; obtain ⟨m, rfl⟩ := hb)
      go_quiet (fail)
      go_wp2_with fail
      go_ret3
      exact ⟨ret3 (by rw [HR.out.1, bs_nil]; rfl) (by rw [HR.out.2, bs_nil]; rfl) (by rw [HC.out, ev_is E (by decide)]; rfl), (Drew.drewN _ _).trans (Drew.drewN _ _)⟩
    · have h1I : (N : Int) ≤ 20000 := by omega
      by_cases h2 : R.length < N
      · have h2I : (R.length : Int) < N := by omega
        have hc : tC L = 1 := by simp only [tC, h0, ← hN, h1, ← hR, h2]; simp
        have hrest : tT L = [] ∧ tR L = [] := by simp [tT, tR, hc]
        have HC := Lib.hid hc
        have HR := Lib.hid hrest
        clear hc hrest hN hR
        go_enter Tryz.func249, Tryz.ntmps249
        go_wp2_with (go_at_call 248; refine GET.mono ?_; rintro e w' ⟨rfl, hb⟩; obtain ⟨m, rfl⟩ := hb)
        go_quiet (fail)
        go_wp2_with fail
        go_ret3
        exact ⟨ret3 (by rw [HR.out.1, bs_nil]; rfl) (by rw [HR.out.2, bs_nil]; rfl) (by rw [HC.out, ev_is E (by decide)]; rfl), (Drew.drewN _ _).trans (Drew.drewN _ _)⟩
      · have h2I : (N : Int) ≤ R.length := by omega
        have hc : tC L = 0 := by simp only [tC, h0, ← hN, h1, ← hR, h2]; simp
        have hrest : tT L = R.take N ∧ tR L = R.drop N := by simp [tT, tR, hc, hN, hR]
        have HC := Lib.hid hc
        have HR := Lib.hid hrest
        clear hc hrest hN hR
        have w0 : (0 : Int) ≤ N := by omega
        have w1 : (N : Int).toNat = N := by omega
        go_enter Tryz.func249, Tryz.ntmps249
        go_wp2_with (go_at_call 248; refine GET.mono ?_; rintro e w' ⟨rfl, hb⟩; obtain ⟨m, rfl⟩ := hb)
        go_quiet (fail)
        go_wp2_with fail
        go_ret3
        refine ⟨ret3 (by rw [HR.out.1]; exact congrArg Value.string (by rw [bs_take]; simp)) (by rw [HR.out.2]; exact congrArg Value.string (by rw [← bs_size, bs_drop]; simp)) (by rw [HC.out, ev_zero]; rfl), (Drew.drewN _ _).trans (Drew.drewN _ _)⟩
  · have hc : tC L = gC L := by simp [tC, h0]
    have hrest : tT L = [] ∧ tR L = [] := by simp [tT, tR, hc, h0]
    have HC := Lib.hid hc
    have HR := Lib.hid hrest
    clear hc hrest hg
    have hev := ev_pos E h0
    go_enter Tryz.func249, Tryz.ntmps249
    go_wp2_with (go_at_call 248; refine GET.mono ?_; rintro e w' ⟨rfl, hb⟩; obtain ⟨m, rfl⟩ := hb; rw [hev])
    go_ret3
    exact ⟨ret3 (by rw [HR.out.1, bs_nil]; rfl) (by rw [HR.out.2, bs_nil]; rfl) (by rw [HC.out, hev]; rfl), Drew.drewN _ _⟩
end Go.Proofs.YtppkeophochgiaaGreatDoor
