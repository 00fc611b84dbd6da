/- Texts of one proof, one behind the other: XferCame, Moved. -/
import Derived.Test.YtdpoalbbcmkceaaGreatDoorB49
import Derived.Test.YtdpoalbbcmkceaaGreatDoorB47
import Derived.Test.YtdpoalbbcmkceaaGreatDoorB46
import Derived.Test.YtdpoalbbcmkceaaGreatDoorB43
import Derived.Laws.StructEq
/- Contract of a transfer: come, where all holds that is to hold. -/
namespace Go.Proofs.YtdpoalbbcmkceaaGreatDoor
open Go.RowKit
set_option linter.unusedVariables false
/-- the errors' cells -/
structure XErr (E : Nat → Addr) (w : World) : Prop where
  e1 : Has E w 1
  e2 : Has E w 2
  e3 : Has E w 3
  e4 : Has E w 4
  e5 : Has E w 5
  e6 : Has E w 6
  e8 : Has E w 8
  e9 : Has E w 9
  e10 : Has E w 10
  e11 : Has E w 11
theorem XErr.below {E : Nat → Addr} {w w' : World} (h : XErr E w) (b : Below w.heap.size w w') : XErr E w' := ⟨h.e1.below b, h.e2.below b, h.e3.below b, h.e4.below b, h.e5.below b, h.e6.below b, h.e8.below b, h.e9.below b, h.e10.below b, h.e11.below b⟩
theorem frT_short {f : PFr} (h : f.d.length ≤ 20000) : (frT f).length ≤ 30000 := by
  have a := num_len f.e.toNat
  have b := num_len f.q.toNat
  have c := num_len f.d.length
  rw [frT_is, frB_is]
  simp only [List.length_append, List.length_cons, lowL_len]; omega
theorem flip_len (s : List UInt8) (q : Nat) : (XS.flip s q).length = s.length := by unfold XS.flip; simp
theorem pk_len {t0 : List PF} {x : XS} (h : XInv t0 x) {p : List UInt8 × Bool} (hp : p ∈ x.net) : 0 < p.1.length ∧ p.1.length ≤ 100000 := by
  obtain ⟨u, e, q, b, hu, h1, h2, _, h3⟩ := h.net p hp
  have hg := h.g2
  have hc := frm_ok h.fr (b := b) hu (show e ≤ 2147483648 by omega) h2
  have hd := (frC_zero hc).2.2.2
  have hl := frT_short hd
  have hl4 : 0 < (frT (xfm x.fr b e q u)).length := by rw [frT_is, List.length_append, lowL_len]; omega
  rcases h3 with h3 | ⟨_, k, h3⟩
  · rw [h3]; exact ⟨hl4, Nat.le_trans hl (by omega)⟩
  · rw [h3, flip_len]; exact ⟨hl4, by omega⟩
section
variable {E : Nat → Addr} {w0 w : World} {xb : Nat} {A : XA} {x : XS} {t0 : List PF}
/-- the source answers -/
theorem xanswer_any (hI : XInv t0 x) (h : XAt w0 w xb A x) (hn : x.net.length ≤ 1000000000) {u : XW} (hu : u.ok x.fr) (e q : Nat) (HE : XErr E w0) :
    Calls Tryz.prog 41 #[.pointer (some ⟨xb, 0, none⟩), .agg #[.int .u8 (xrq e q u).k.toNat, .int .i64 (xrq e q u).e, .int .i64 (xrq e q u).q, .string (bs (xrq e q u).d)]] w fun e' w' => e' = .returned (.tuple #[]) ∧ ∃ A', XAt w0 w' xb A' (x.answer (xrq e q u)) := by
  rw [answer_is hI.fr hu]
  cases u with
  | all => exact xansl_any e q [] h hI.fr.wf hn (lines_sum _) HE.e2 HE.e4 HE.e5 HE.e8 HE.e9
  | one n o d =>
    obtain ⟨h1, h2⟩ := hu
    have hnl := hI.fr.name h1
    have hd := hI.fr.len _ h1
    simp only [] at hnl hd
    have hsl := sgT_len h2
    have hdl := dtL_len h2 hd
    have hok := opO_ok h2 hd
    obtain ⟨p1, p2, p3, q1, q2, q3⟩ := two_read (a := n) (b := sgT o) (by omega) (by omega)
    have htl := two_len n (sgT o)
    have hnn := num_len (sgT o).length
    have := xansg_any (E := E) e q (XS.two n (sgT o)) n (sgT o) (num (sgT o).length ++ sgT o) [] d 0 0 (blks (sizeN o.length) o) (sizeN o.length) (opO o d) h hI.fr.wf hn (by omega) (by rw [List.length_append]; omega) (by omega) p1 p2 p3 q1 q2 q3 rEnd_nil (sgT_read h2).1 (sgT_read h2).2 (fgetL_of hI.fr.wf.sorted h1) (by omega) rfl (by rw [(opO_dt h2 hd).1]) (by have := hok.1; omega) (opO_short h2 hd).2 (by omega) (by omega) HE.e1 HE.e2 HE.e3 HE.e4 HE.e8
    refine this.mono ?_
    rintro e' w' ⟨rfl, A', hA⟩
    refine ⟨rfl, A', ?_⟩
    have e2 : xan x.fr e q (.one n o d) = ⟨111, e, q, num n.length ++ (n ++ (num (dtL (opO o d)).length ++ dtL (opO o d)))⟩ := by
      show (⟨111, e, q, XS.two n (dtL (opO o d))⟩ : PFr) = _
      unfold XS.two
      rw [List.append_assoc]
    rw [e2]
    exact hA
/-- the destination takes what comes -/
theorem xanswered_any (hI : XInv t0 x) (h : XAt w0 w xb A x) (hn : x.net.length ≤ 1000000000) {u : XW} {e q : Nat} (hu : u.ok x.fr) (hr : e = x.ge → q < x.sq ∧ (q + 1 = x.sq → x.dn = false → u = x.cur)) (HE : XErr E w0) :
    Calls Tryz.prog 42 #[.pointer (some ⟨xb, 0, none⟩), .agg #[.int .u8 (xan x.fr e q u).k.toNat, .int .i64 (xan x.fr e q u).e, .int .i64 (xan x.fr e q u).q, .string (bs (xan x.fr e q u).d)]] w fun e' w' => e' = .returned (.tuple #[]) ∧ ∃ A', XAt w0 w' xb A' (x.answered (xan x.fr e q u)) := by
  rcases answered_is hI hr with ⟨hc, e2⟩ | ⟨hd, hk, hq, hg, he, e6, e7, e8, e2⟩
  · rw [e2]
    by_cases hd : x.dn = true
    · exact xanswered_dn _ _ _ _ h hd
    · have hd' : x.dn = false := by simpa using hd
      have hk : x.ask.k ≠ 0 := by rw [(hI.ask hd').2]; exact xrq_k _ _ _
      by_cases hq : (xan x.fr e q u).q = x.ask.q
      · have he : (xan x.fr e q u).e ≠ x.ge := by
          rcases hc with h1 | h1 | h1 | h1 | h1
          · exact absurd h1 hd
          · exact absurd h1 hk
          · exact absurd hq h1
          · have := hI.g1; omega
          · exact h1
        exact xanswered_old _ _ _ _ h hd' hk hq he HE.e6 HE.e11
      · exact xanswered_seq _ _ _ _ h hd' hk hq
  · rw [e2]
    clear e2 hr hu
    subst e6 e7 e8
    obtain ⟨m1, m2, m3, m4, m5⟩ := taken_inv hI hd
    have hfew := hI.fr.wf.few
    have hln : LWF x.took.ln := by
      cases hkn : x.took.kn with
      | true => rw [m1.ln hkn]; exact m1.fr.wf.lines
      | false => rw [m1.l0 hkn]; exact ⟨by simp, by simp, List.Pairwise.nil⟩
    have NX : ∀ w' A', XAt w0 w' xb A' x.took → _ := fun w' A' hA => xnext_any (E := E) hA (by rw [m3]; exact hn) (by have := m1.sm; rw [m5] at this; omega) (fun n => m1.tt.old4 n) hln m1.tt.wf HE.e2 HE.e4 HE.e5 HE.e8 HE.e9
    cases hkn : x.kn with
    | false =>
      have hcur := cur_all hkn
      have tk : x.took = XS.listed (flText (x.fr.map PF.line)) x.good := by unfold XS.took; rw [hcur]; rfl
      have LI : ∀ w' A', XAt w0 w' xb A' x.good → _ := fun w' A' hA => xlisted_any (E := E) (flText (x.fr.map PF.line)) hA (by rw [readLn_text _ hI.fr.wf.lines (lines_sum _)]) (by have := lText_len hI.fr.wf.lines; omega) HE.e1 HE.e2 HE.e5 HE.e8 HE.e9
      rw [← tk] at LI
      rw [hcur] at hq he ⊢
      exact xanswered_lines _ _ _ x.took x.took.next h hI.flow hd hk hq hg he LI NX HE.e6 HE.e11
    | true =>
      obtain ⟨f0, hf0, hno, hcur, ht⟩ := took_one hI hd hkn
      have hnl := hI.fr.name hf0
      have hdl := hI.fr.len _ hf0
      have hol := hI.tt.old (x := x) f0.n
      have hlx := hI.ln hkn
      have htl := dtL_len hol hdl
      obtain ⟨p1, p2, p3, q1, q2, q3⟩ := two_read (a := f0.n) (b := dtL (opO (x.old f0.n) f0.d)) (by omega) (by omega)
      have hml : f0.line ∈ x.ln := by rw [hlx]; exact List.mem_map_of_mem hf0
      obtain ⟨k, hk2, hix, hkl⟩ : ∃ k : Nat, ∃ hk : k < x.ln.length, ixI 0 (fun y : PL => y.n == f0.n) x.ln = k ∧ x.ln[k]'hk = f0.line := by
        rcases ixI_spec (fun y : PL => y.n == f0.n) x.ln with ⟨_, hall⟩ | ⟨k, hk, h1, h2, _⟩
        · exact absurd (hall _ hml) (by simp [PF.line])
        · refine ⟨k, hk, h1, ?_⟩
          have hm := List.getElem_mem hk
          refine Srt.inj (l := x.ln) (by rw [hlx]; exact hI.fr.wf.lines.sorted) hm hml ?_
          simpa [PF.line] using h2
      have htw := two_len f0.n (dtL (opO (x.old f0.n) f0.d))
      have hnn := num_len (dtL (opO (x.old f0.n) f0.d)).length
      have hLW : LWF x.ln := by rw [hlx]; exact hI.fr.wf.lines
      have GI : ∀ w' A', XAt w0 w' xb A' x.good → _ := fun w' A' hA => xgiven_any (x := x.good) (E := E) (XS.two f0.n (dtL (opO (x.old f0.n) f0.d))) f0.n (dtL (opO (x.old f0.n) f0.d)) (num (dtL (opO (x.old f0.n) f0.d)).length ++ dtL (opO (x.old f0.n) f0.d)) [] 0 0 (opO (x.old f0.n) f0.d) k hk2 hA (by have := hI.fl hd; have := hI.s2; show x.fu.length ≤ _; omega) hix (by omega) (by rw [List.length_append]; omega) (by omega) p1 p2 p3 q1 q2 q3 rEnd_nil (opO_read hol hdl) (by omega) (by show (x.old f0.n).length ≤ _; omega) hI.tt.wf (by show x.ln.length ≤ _; rw [hlx, List.length_map]; omega)
        (fun hw => by
          have hw : (whC (x.old f0.n) (sizeN (x.old f0.n).length) (opO (x.old f0.n) f0.d) (x.ln[k]'hk2).N (x.ln[k]'hk2).S).1 = 0 := hw
          show FWF (fputL x.room f0.n (whL (x.old f0.n) (sizeN (x.old f0.n).length) (opO (x.old f0.n) f0.d) (x.ln[k]'hk2).N (x.ln[k]'hk2).S)) ∧ (putF x.room f0.n (whL (x.old f0.n) (sizeN (x.old f0.n).length) (opO (x.old f0.n) f0.d) (x.ln[k]'hk2).N (x.ln[k]'hk2).S)).1 = 0 ∧ (whL (x.old f0.n) (sizeN (x.old f0.n).length) (opO (x.old f0.n) f0.d) (x.ln[k]'hk2).N (x.ln[k]'hk2).S).length ≤ 4000
          rw [hkl] at hw ⊢
          rcases wh_cases (x.old f0.n) (sizeN (x.old f0.n).length) (opO (x.old f0.n) f0.d) f0.line.N f0.line.S with hw2 | ⟨_, v1, _⟩
          · exact absurd hw hw2
          · have l1 : (whL (x.old f0.n) (sizeN (x.old f0.n).length) (opO (x.old f0.n) f0.d) f0.line.N f0.line.S).length ≤ 4000 := by
              have : ((whL (x.old f0.n) (sizeN (x.old f0.n).length) (opO (x.old f0.n) f0.d) f0.line.N f0.line.S).length : Int) = (f0.d.length : Nat) := v1
              omega
            obtain ⟨r1, r2⟩ := room_put (x := x) hI.tt.wf hLW ⟨f0.line, hml, rfl⟩ l1
            exact ⟨r1, r2, l1⟩) HE.e1 HE.e2 HE.e3 HE.e4 HE.e5 HE.e6 HE.e8 HE.e9 HE.e10
      have hkl' : (x.good.ln[k]'hk2) = f0.line := hkl
      rw [hkl', ← ht] at GI
      rw [hcur] at hq he ⊢
      exact xanswered_file _ _ _ _ x.took x.took.next h hI.flow (by show ((((111 : UInt8).toNat : Nat) : Int) == 109) = false; decide) hd hk hq hg he GI NX HE.e6 HE.e11
theorem xcome_any (hI : XInv t0 x) (k : Nat) (h : XAt w0 w xb A x) (hk : k < x.net.length) (hn : x.net.length ≤ 1000000000) (HE : XErr E w0) :
    Calls Tryz.prog 24 #[.pointer (some ⟨xb, 0, none⟩), .int .i64 k] w fun e w' => e = .returned (.tuple #[]) ∧ ∃ A', XAt w0 w' xb A' (x.come k) := by
  have hs := (pk_len hI (List.getElem_mem hk)).2
  have hy := erase_inv hI k
  have hyn : ({ x with net := x.net.eraseIdx k } : XS).net.length ≤ 1000000000 := by
    show (x.net.eraseIdx k).length ≤ _
    rw [List.length_eraseIdx]
    split <;> omega
  cases came hI k hk with
  | bad hb he => rw [he]; exact xcome_bad k h hk hn hs hb HE.e1 HE.e2 HE.e4 HE.e10
  | req u e q hu h1 h2 hr hb he hp =>
    rw [he]
    have hb' : decF (x.net[k]'hk).1 = (⟨(xrq e q u).k, (xrq e q u).e, (xrq e q u).q, (xrq e q u).d⟩, 0) := hb
    have HC : ∀ w' A', XAt w0 w' xb A' { x with net := x.net.eraseIdx k } → _ := fun w' A' hA => xanswer_any (E := E) hy hA hyn (u := u) hu e q HE
    rcases rq_kind e q u with hk8 | hk3
    · exact xcome_list k h hk hn hs _ _ _ _ _ hb' hk8 HC HE.e1 HE.e2 HE.e4 HE.e10
    · exact xcome_file k h hk hn hs _ _ _ _ _ hb' hk3 HC HE.e1 HE.e2 HE.e4 HE.e10
  | old u e q hu h1 h2 hr hb hc he =>
    have e1 : x.come k = XS.answered (xan x.fr e q u) { x with net := x.net.eraseIdx k } := come_an hk hb (an_kind _ e q u)
    rw [e1]
    have hb' : decF (x.net[k]'hk).1 = (⟨(xan x.fr e q u).k, (xan x.fr e q u).e, (xan x.fr e q u).q, (xan x.fr e q u).d⟩, 0) := hb
    have hkk := an_kind x.fr e q u
    simp only [not_or] at hkk
    exact xcome_dst k h hk hn hs _ _ _ _ _ hb' hkk.1 hkk.2 (fun w' A' hA => xanswered_any (E := E) hy hA hyn (u := u) hu hr HE) HE.e1 HE.e2 HE.e4 HE.e10
  | now hd ha hq hg he1 hb he =>
    have e1 : x.come k = XS.answered (xan x.fr x.ge (x.sq - 1) x.cur) { x with net := x.net.eraseIdx k } := come_an hk hb (an_kind _ _ _ _)
    rw [e1]
    have hb' : decF (x.net[k]'hk).1 = (⟨(xan x.fr x.ge (x.sq - 1) x.cur).k, (xan x.fr x.ge (x.sq - 1) x.cur).e, (xan x.fr x.ge (x.sq - 1) x.cur).q, (xan x.fr x.ge (x.sq - 1) x.cur).d⟩, 0) := hb
    have hkk := an_kind x.fr x.ge (x.sq - 1) x.cur
    simp only [not_or] at hkk
    exact xcome_dst k h hk hn hs _ _ _ _ _ hb' hkk.1 hkk.2 (fun w' A' hA => xanswered_any (E := E) hy hA hyn (u := x.cur) (cur_ok hI.fr hI.tt hI.ln) (fun _ => ⟨by have := (hI.ask hd).1; show x.sq - 1 < x.sq; omega, fun _ _ => rfl⟩) HE) HE.e1 HE.e2 HE.e4 HE.e10
end
end Go.Proofs.YtdpoalbbcmkceaaGreatDoor
/- A statement's closed fact moved: a file comes to the other side. -/
namespace Go.Proofs.YtdpoalbbcmkceaaGreatDoor
open Go.RowKit
set_option linter.unusedVariables false
section
variable {t0 : List PF} {x : XS}
theorem start_dn {fr t : List PF} (hf : Small fr) (ht : Small t) : (XS.start fr t).dn = false := by
  have M := begin_mid (t0 := t) (x := ⟨fr, t, 0, [], 0, 0, zfr, 0, 1, 32, 2, 0, [], false, [], false⟩) hf ht (fun g hg => .inl hg) (fun p hp => by cases hp) rfl (by show 0 < 2147483648; omega)
  have A := (asks_inv M (fun e => by cases e)).1
  unfold XS.start XS.begins
  rw [if_neg (by simp), if_neg (by simp), XS.next_ask rfl]
  have e : ∀ y : XS, y.kn = false → (⟨(xrq y.ge y.sq y.cur).k, y.ep, y.sq, (xrq y.ge y.sq y.cur).d⟩ : PFr) = ⟨108, y.ep, y.sq, []⟩ := fun y h => by rw [cur_all h]; rfl
  have e2 : ∀ y : XS, y.kn = false → y.asks 108 [] = y.asks (xrq y.ge y.sq y.cur).k (xrq y.ge y.sq y.cur).d := fun y h => by rw [cur_all h]; rfl
  rw [e2 _ rfl, A]
theorem tell_same {fr : List PF} {y : XS} (h : XInv t0 y) (hd : y.dn = true) (e : y.fr = fr) : y.tt.map PF.line = fr.map PF.line := by rw [← e]; exact (h.done hd).1
/-- what came where nothing was is the source's -/
theorem come_exact {fr : List PF} {y : XS} (h : XInv [] y) (hd : y.dn = true) (e : y.fr = fr) : y.tt = fr := by
  have h1 := tell_same h hd e
  have hsub : ∀ g ∈ y.tt, g ∈ fr := fun g hg => by
    rcases h.near g hg with h2 | ⟨f, hf, _, h3⟩
    · cases h2
    · rw [← h3 rfl, ← e]; exact hf
  have hwf : FWF fr := by rw [← e]; exact h.fr.wf
  have hlen : y.tt.length = fr.length := by have := congrArg List.length h1; simpa using this
  refine List.ext_getElem hlen fun k hk hk2 => ?_
  have h3 : (y.tt.map PF.line)[k]? = (fr.map PF.line)[k]? := by rw [h1]
  rw [List.getElem?_map, List.getElem?_map, List.getElem?_eq_getElem hk, List.getElem?_eq_getElem hk2] at h3
  exact Sr.inj hwf.sorted (hsub _ (List.getElem_mem hk)) (List.getElem_mem hk2) (line_n (Option.some.inj h3))
end
theorem file_eq (a b c d : ByteArray) (w : World) : (Op.equalIn 10000 49 (.agg #[.string a, .string b]) (.agg #[.string c, .string d])).run Tryz.prog w = if a.toList = c.toList ∧ b.toList = d.toList then .ok true w else .ok false w := by
  have u9 := Tryz.underlying9
  have hS : Tryz.prog.underlying 49 = some (.struct (Tryz.prog.fieldsOf 49)) := by kernel_rfl
  rw [show (10000 : Nat) = 9999 + 1 from rfl, run_equalIn_agg w 9999 49 _ _ hS (by kernel_rfl)]
  simp only [Program.fieldsOf, Tryz.underlying49]
  go_simp
  by_cases h1 : a.toList = c.toList <;> by_cases h2 : b.toList = d.toList <;> simp [h1, h2]
theorem file_same (a b : ByteArray) (w : World) : (Op.equalIn 10000 49 (.agg #[.string a, .string b]) (.agg #[.string a, .string b])).run Tryz.prog w = .ok true w := by
  rw [file_eq, if_pos ⟨rfl, rfl⟩]
theorem slice_oneT {w : World} {b : Nat} {x y : Value} {t : TypeId} (h : w.heap[b]? = some (.cells #[x, y] t (0, 0))) : SliceIs w (.slice (some ⟨b, 0, none⟩) 1 1) 2 [x, y] :=
  .inr ⟨⟨b, 0, none⟩, 1, 1, rfl, Nat.le_refl _, by unfold maxLen; omega, rfl, fun i u hi => by
    match i, hi with
    | 0, hi => simp at hi; subst hi; simp [World.cell?, h, Addr.add]
    | 1, hi => simp at hi; subst hi; simp [World.cell?, h, Addr.add]⟩
theorem addz (a : Addr) : a.add 0 = a := by simp [Addr.add]
def oneF : List PF := [⟨[97], [120, 121]⟩]
theorem oneF_small : Small oneF := by
  refine ⟨⟨by decide, fun x hx => ?_, by unfold oneF; exact List.pairwise_singleton _ _⟩, fun x hx => ?_⟩
  · have : x = ⟨[97], [120, 121]⟩ := by simpa [oneF] using hx
    subst this
    exact ⟨by decide, by decide⟩
  · have : x = ⟨[97], [120, 121]⟩ := by simpa [oneF] using hx
    subst this
    decide
theorem nil_small : Small [] := ⟨⟨by simp, by simp, List.Pairwise.nil⟩, by simp⟩
/-- come's contract, of a transfer that was made well -/
theorem come_ok {E : Nat → Addr} {w0 : World} (xb : Nat) (t0 : List PF) (HE : XErr E w0) : ComeOk w0 xb t0 := fun x k w A hI h hk hn => xcome_any (E := E) hI k h hk hn HE
set_option maxRecDepth 100000 in
set_option maxHeartbeats 6400000 in
theorem moved_ok (E : Nat → Addr) (w : World) (HE : XErr E w) : Calls Tryz.prog 5 #[] w fun e w' => e = .returned (.bool true) ∧ Below w.heap.size w w' := by
  have hb1 : bs [97] = ⟨#[97]⟩ := by unfold bs; rfl
  have hb2 : bs [120, 121] = ⟨#[120, 121]⟩ := by unfold bs; rfl
  have B0 := Lib.hid (wb_alloc w (.cells #[.string ⟨#[97]⟩, .string ⟨#[120, 121]⟩] 49))
  have S0 : SliceIs (w.alloc (.cells #[.string ⟨#[97]⟩, .string ⟨#[120, 121]⟩] 49)) (.slice (some ⟨w.heap.size, 0, none⟩) 1 1) 2 (fcells oneF) := by
    have h := slice_oneT (heap_alloc_new w (.cells #[.string ⟨#[97]⟩, .string ⟨#[120, 121]⟩] 49))
    unfold oneF
    rw [fcells_one, hb1, hb2]
    exact h
  have HE0 := Lib.hid (HE.below B0.out)
  have NW := Lib.hid (xnew_any (E := E) oneF [] (.slice (some ⟨w.heap.size, 0, none⟩) 1 1) (.slice none 0 0) _ S0 (.inl ⟨rfl, rfl⟩) oneF_small.wf nil_small.wf HE0.out.e2 HE0.out.e4 HE0.out.e5 HE0.out.e8 HE0.out.e9)
  have ST := Lib.hid (start_inv oneF_small nil_small)
  have SD := Lib.hid (start_dn oneF_small nil_small)
  clear S0 HE
  go_enter Tryz.func5, Tryz.ntmps5
  go_wp2_with fail
  generalize w.alloc (.cells #[.string ⟨#[97]⟩, .string ⟨#[120, 121]⟩] 49) = wa at *
  refine NW.out.mono ?_
  rintro e w1 ⟨xb, A, rfl, hX⟩
  obtain ⟨s1, s2, s3, s4⟩ := ST.out
  have X1 := Lib.hid hX
  have DN := Lib.hid (xdone_any hX)
  rw [SD.out] at DN
  have FN := Lib.hid (xfinish_any (E := E) s1 hX (by omega) (by omega) (come_ok xb [] HE0.out) HE0.out.e2 HE0.out.e4)
  have FL := fin_law turnsN s1 (.inr (by have := left_le s1; have := turnsN_is; omega))
  have TT := Lib.hid (come_exact FL.2.1 FL.1 (FL.2.2.1.trans s2))
  have DD := Lib.hid FL.1
  generalize XS.fin turnsN (XS.start oneF []) = y at *
  clear hX s1 s2 s3 s4 NW FL SD ST
  go_wp2_with fail
  refine DN.out.mono ?_
  rintro e w2 ⟨rfl, rfl⟩
  clear DN
  go_wp2_with fail
  refine FN.out.mono ?_
  rintro e w3 ⟨rfl, A3, hA3⟩
  have X3 := Lib.hid hA3
  have TO := xto_any hA3 (by rw [TT.out]; decide)
  rw [TT.out] at TO
  have TO := Lib.hid TO
  clear hA3 FN X1
  go_wp2_with fail
  refine TO.out.mono ?_
  rintro e w4 ⟨r4, rfl, o4, b4⟩
  have X4 := Lib.hid (X3.out.below b4)
  have DN := Lib.hid (xdone_any X4.out)
  rw [DD.out] at DN
  have c0 := (SliceIs.ownedK o4)
  obtain ⟨s', n', c', hv, hn1, h1, h2, hg⟩ := c0.get
  rw [fcells_len] at hn1
  have hn' : n' = 1 := by have : oneF.length = 1 := rfl; omega
  subst hn' hv
  have g0 := hg (0 * 2) (.string (bs [97])) rfl
  have g1 := hg (0 * 2 + 1) (.string (bs [120, 121])) rfl
  obtain ⟨ad, rfl, d0⟩ := g0
  obtain ⟨ad', q', d1⟩ := g1
  cases q'
  have d1 := cell_at d1
  rw [Nat.zero_mul, addz] at d0
  simp only [Nat.zero_mul, addz, Nat.zero_add] at d1
  rw [hb1] at d0
  rw [hb2] at d1
  have EQ := file_same ⟨#[97]⟩ ⟨#[120, 121]⟩
  have B4 := Lib.hid (below_trans' (below_trans' B0.out X3.out.rest.bel) b4)
  clear o4 b4 TO X3 c0 hg h2 hn1
  go_wp2_with fail
  refine DN.out.mono ?_
  rintro e w5 ⟨rfl, rfl⟩
  clear DN
  go_wp2_with fail
  go_ret
  exact ⟨rfl, B4.out⟩
end Go.Proofs.YtdpoalbbcmkceaaGreatDoor
