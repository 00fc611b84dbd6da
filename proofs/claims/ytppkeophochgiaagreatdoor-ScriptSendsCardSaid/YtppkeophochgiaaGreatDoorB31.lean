/- Texts of one proof, one behind the other: XferLaw3, XferListed, XferFin. -/
import Derived.Test.YtppkeophochgiaaGreatDoorB30
import Derived.Test.YtppkeophochgiaaGreatDoorB28
/- The plain laws of a transfer, third part: what comes, each deed, and the end. No program is in sight. -/
namespace Go.Proofs.YtppkeophochgiaaGreatDoor
open Go.RowKit
set_option linter.unusedVariables false
section
variable {t0 : List PF} {x : XS}
theorem net_inv (h : XInv t0 x) {l : List (List UInt8 × Bool)} (hn : ∀ p ∈ l, XPk x p) : XInv t0 { x with net := l } :=
  ⟨h.fr, h.tt, h.near, hn, h.ep, h.g1, h.g2, h.sm, h.s2, h.age, h.flow, h.ln, h.l0, h.ask, h.op, h.done, h.fl⟩
theorem xan_e (fr : List PF) (e q : Nat) (u : XW) : (xan fr e q u).e = e := by cases u <;> rfl
theorem xan_q (fr : List PF) (e q : Nat) (u : XW) : (xan fr e q u).q = q := by cases u <;> rfl
theorem xrq_e (e q : Nat) (u : XW) : (xrq e q u).e = e := by cases u <;> rfl
theorem xrq_q (e q : Nat) (u : XW) : (xrq e q u).q = q := by cases u <;> rfl
theorem xrq_k (e q : Nat) (u : XW) : (xrq e q u).k ≠ 0 := by cases u <;> simp [xrq]
theorem ansG_is (hf : Small x.fr) {f : PFr} {n o d : List UInt8} (hfd : f.d = XS.two n (sgT o)) (h1 : (⟨n, d⟩ : PF) ∈ x.fr) (h2 : o.length ≤ 200) : x.ansG f = x.put ⟨111, f.e, f.q, XS.two n (dtL (opO o d))⟩ := by
  have hn : n.length ≤ 12 := hf.name h1
  have hd : d.length ≤ 200 := hf.len _ h1
  obtain ⟨p1, p2, p3, q1, q2, q3⟩ := two_read (a := n) (b := sgT o) (by omega) (by have := sgT_len h2; omega)
  have hg : fgetL x.fr n = some d := fgetL_of hf.wf.sorted h1
  have hs := (sgT_read h2).1
  have hdt := (opO_dt h2 hd).1
  unfold XS.ansG
  rw [hfd, p1, p2, p3, q1, q2, q3, rEnd_nil, hs, hg]
  simp only [ne_eq, not_true_eq_false, if_false]
  have e1 : mkOps (blks (sizeN o.length) o) (sizeN o.length) d = opO o d := rfl
  rw [e1, hdt]
  rfl
/-- the source answers -/
theorem answer_is (hf : Small x.fr) {u : XW} {e q : Nat} (hu : u.ok x.fr) : x.answer (xrq e q u) = x.put (xan x.fr e q u) := by
  cases u with
  | all => rfl
  | one n o d =>
    obtain ⟨h1, h2⟩ := hu
    have hk : ¬ (xrq e q (.one n o d)).k = 108 := by show ¬ (103 : UInt8) = 108; decide
    unfold XS.answer
    rw [if_neg hk]
    exact ansG_is hf rfl h1 h2
theorem answered_no {f : PFr} (h : x.dn = true ∨ x.ask.k = 0 ∨ f.q ≠ x.ask.q ∨ x.ge = 0 ∨ f.e ≠ x.ge) : x.answered f = x := by unfold XS.answered; rw [if_pos h]
/-- a frame that is no answer to what was asked, or one that is -/
theorem answered_is (h : XInv t0 x) {u : XW} {e q : Nat} (hr : e = x.ge → q < x.sq ∧ (q + 1 = x.sq → x.dn = false → u = x.cur)) :
    ((x.dn = true ∨ x.ask.k = 0 ∨ (xan x.fr e q u).q ≠ x.ask.q ∨ x.ge = 0 ∨ (xan x.fr e q u).e ≠ x.ge) ∧ x.answered (xan x.fr e q u) = x) ∨
    (x.dn = false ∧ x.ask.k ≠ 0 ∧ (xan x.fr e q u).q = x.ask.q ∧ x.ge ≠ 0 ∧ (xan x.fr e q u).e = x.ge ∧ e = x.ge ∧ q = x.sq - 1 ∧ u = x.cur ∧ x.answered (xan x.fr e q u) = x.took.next) := by
  by_cases hc : x.dn = true ∨ x.ask.k = 0 ∨ (xan x.fr e q u).q ≠ x.ask.q ∨ x.ge = 0 ∨ (xan x.fr e q u).e ≠ x.ge
  · exact .inl ⟨hc, answered_no hc⟩
  · have hc' := hc
    simp only [not_or] at hc
    obtain ⟨h1, h2, h3, h4, h5⟩ := hc
    have hd : x.dn = false := by simpa using h1
    have h3 : (xan x.fr e q u).q = x.ask.q := Classical.byContradiction h3
    have h5 : (xan x.fr e q u).e = x.ge := Classical.byContradiction h5
    obtain ⟨a1, a2⟩ := h.ask hd
    have e1 : e = x.ge := by rw [xan_e] at h5; omega
    have q1 : q = x.sq - 1 := by
      rw [a2, xan_q, xrq_q] at h3
      omega
    have hu := (hr e1).2 (by omega) hd
    refine .inr ⟨hd, h2, h3, h4, h5, e1, q1, hu, ?_⟩
    unfold XS.answered
    rw [if_neg hc', e1, q1, hu]
    rfl
theorem erase_inv (h : XInv t0 x) (k : Nat) : XInv t0 { x with net := x.net.eraseIdx k } := net_inv h (fun p hp => h.net p (List.mem_of_mem_eraseIdx hp))
theorem rq_kind (e q : Nat) (u : XW) : (xrq e q u).k = 108 ∨ (xrq e q u).k = 103 := by cases u <;> simp [xrq]
theorem an_kind (fr : List PF) (e q : Nat) (u : XW) : ¬ ((xan fr e q u).k = 108 ∨ (xan fr e q u).k = 103) := by cases u <;> simp [xan] <;> decide
theorem come_flip {k : Nat} (hk : k < x.net.length) (hb : (decF (x.net[k]'hk).1).2 ≠ 0) : x.come k = { x with net := x.net.eraseIdx k } := by
  unfold XS.come
  rw [List.getElem?_eq_getElem hk]
  simp only []
  rw [if_pos hb]
theorem come_rq {k : Nat} (hk : k < x.net.length) {f : PFr} (hb : decF (x.net[k]'hk).1 = (f, 0)) (hf : f.k = 108 ∨ f.k = 103) : x.come k = XS.answer f { x with net := x.net.eraseIdx k } := by
  unfold XS.come
  rw [List.getElem?_eq_getElem hk]
  simp only []
  rw [hb]
  simp only [ne_eq, not_true_eq_false, if_false]
  rw [if_pos hf]
theorem come_an {k : Nat} (hk : k < x.net.length) {f : PFr} (hb : decF (x.net[k]'hk).1 = (f, 0)) (hf : ¬ (f.k = 108 ∨ f.k = 103)) : x.come k = XS.answered f { x with net := x.net.eraseIdx k } := by
  unfold XS.come
  rw [List.getElem?_eq_getElem hk]
  simp only []
  rw [hb]
  simp only [ne_eq, not_true_eq_false, if_false]
  rw [if_neg hf]
/-- what a packet may be, and what it makes -/
inductive Came (t0 : List PF) (x : XS) (k : Nat) (hk : k < x.net.length) : Prop
  | bad (hb : (decF (x.net[k]'hk).1).2 ≠ 0) (he : x.come k = { x with net := x.net.eraseIdx k })
  | req (u : XW) (e q : Nat) (hu : u.ok x.fr) (h1 : e ≤ x.ge) (h2 : q < 65536) (hr : e = x.ge → q < x.sq ∧ (q + 1 = x.sq → x.dn = false → u = x.cur)) (hb : decF (x.net[k]'hk).1 = (xrq e q u, 0)) (he : x.come k = XS.answer (xrq e q u) { x with net := x.net.eraseIdx k })
      (hp : x.come k = { x with net := x.net.eraseIdx k ++ [(frT (xan x.fr e q u), false)] })
  | old (u : XW) (e q : Nat) (hu : u.ok x.fr) (h1 : e ≤ x.ge) (h2 : q < 65536) (hr : e = x.ge → q < x.sq ∧ (q + 1 = x.sq → x.dn = false → u = x.cur)) (hb : decF (x.net[k]'hk).1 = (xan x.fr e q u, 0)) (hc : x.dn = true ∨ x.ask.k = 0 ∨ (xan x.fr e q u).q ≠ x.ask.q ∨ x.ge = 0 ∨ (xan x.fr e q u).e ≠ x.ge) (he : x.come k = { x with net := x.net.eraseIdx k })
  | now (hd : x.dn = false) (ha : x.ask.k ≠ 0) (hq : (xan x.fr x.ge (x.sq - 1) x.cur).q = x.ask.q) (hg : x.ge ≠ 0) (he1 : (xan x.fr x.ge (x.sq - 1) x.cur).e = x.ge) (hb : decF (x.net[k]'hk).1 = (xan x.fr x.ge (x.sq - 1) x.cur, 0)) (he : x.come k = XS.next (XS.took { x with net := x.net.eraseIdx k }))
theorem came (h : XInv t0 x) (k : Nat) (hk : k < x.net.length) : Came t0 x k hk := by
  have hy := erase_inv h k
  obtain ⟨u, e, q, b, hu, h1, h2, hr, hp⟩ := h.net _ (List.getElem_mem hk)
  have hge := h.g2
  rcases hp with hp | ⟨hp1, j, hp2⟩
  · have hdec : decF (x.net[k]'hk).1 = (xfm x.fr b e q u, 0) := by
      rw [hp]
      exact dec_enc _ (frm_ok h.fr hu (by omega) h2)
    cases b with
    | false =>
      have hdec : decF (x.net[k]'hk).1 = (xrq e q u, 0) := hdec
      have e1 := come_rq hk hdec (rq_kind e q u)
      refine .req u e q hu h1 h2 hr hdec e1 ?_
      rw [e1]
      exact (answer_is (x := { x with net := x.net.eraseIdx k }) h.fr hu).trans (put_frm (x := { x with net := x.net.eraseIdx k }) (b := true) h.fr hu (by omega) h2)
    | true =>
      have hdec : decF (x.net[k]'hk).1 = (xan x.fr e q u, 0) := hdec
      have e1 := come_an hk hdec (an_kind _ e q u)
      rcases answered_is hy (u := u) (e := e) (q := q) hr with ⟨hc, e2⟩ | ⟨a1, a2, a3, a4, a5, a6, a7, a8, e2⟩
      · exact .old u e q hu h1 h2 hr hdec hc (e1.trans e2)
      · have e6 : e = x.ge := a6
        have e7 : q = x.sq - 1 := a7
        have e8 : u = x.cur := a8
        subst e6 e7 e8
        exact .now a1 a2 a3 a4 a5 hdec (e1.trans e2)
  · have hb : (decF (x.net[k]'hk).1).2 ≠ 0 := by
      rw [hp2, flip_none]
      decide
    exact .bad hb (come_flip hk hb)
theorem an_pk (h : XInv t0 x) {u : XW} {e q : Nat} (hu : u.ok x.fr) (h1 : e ≤ x.ge) (h2 : q < 65536) (hr : e = x.ge → q < x.sq ∧ (q + 1 = x.sq → x.dn = false → u = x.cur)) : XPk x (frT (xan x.fr e q u), false) :=
  ⟨u, e, q, true, hu, h1, h2, hr, .inl rfl⟩
theorem rq_pk (h : XInv t0 x) {u : XW} {e q : Nat} (hu : u.ok x.fr) (h1 : e ≤ x.ge) (h2 : q < 65536) (hr : e = x.ge → q < x.sq ∧ (q + 1 = x.sq → x.dn = false → u = x.cur)) : XPk x (frT (xrq e q u), false) :=
  ⟨u, e, q, false, hu, h1, h2, hr, .inl rfl⟩
/-- a step of a transfer -/
structure Stepped (t0 : List PF) (x y : XS) : Prop where
  inv : XInv t0 y
  fr : y.fr = x.fr
  ge : y.ge ≤ x.ge + 1
  net : y.net.length ≤ x.net.length + 1
  dn : x.dn = true → y.dn = true ∧ y.tt = x.tt
theorem come_law (h : XInv t0 x) (k : Nat) (hk : k < x.net.length) : XInv t0 (x.come k) ∧ (x.come k).fr = x.fr ∧ (x.come k).ge = x.ge ∧ (x.come k).net.length ≤ x.net.length ∧ (x.dn = true → (x.come k).dn = true ∧ (x.come k).tt = x.tt) := by
  have hy := erase_inv h k
  have hlen : (x.net.eraseIdx k).length = x.net.length - 1 := by rw [List.length_eraseIdx, if_pos hk]
  cases came h k hk with
  | bad hb he =>
    rw [he]
    exact ⟨hy, rfl, rfl, by show (x.net.eraseIdx k).length ≤ _; omega, fun hd => ⟨hd, rfl⟩⟩
  | req u e q hu h1 h2 hr hb he hp =>
    rw [hp]
    refine ⟨net_inv h (fun p hp => ?_), rfl, rfl, by show (x.net.eraseIdx k ++ [_]).length ≤ _; rw [List.length_append, List.length_singleton]; omega, fun hd => ⟨hd, rfl⟩⟩
    rcases List.mem_append.1 hp with hp | hp
    · exact h.net p (List.mem_of_mem_eraseIdx hp)
    · rw [List.mem_singleton.1 hp]
      exact an_pk h hu h1 h2 hr
  | old u e q hu h1 h2 hr' hb hc he =>
    rw [he]
    exact ⟨hy, rfl, rfl, by show (x.net.eraseIdx k).length ≤ _; omega, fun hd => ⟨hd, rfl⟩⟩
  | now hd ha hq hg he1 hb he =>
    obtain ⟨m1, m2, m3, m4, m5⟩ := taken_inv hy hd
    obtain ⟨n1, n2, n3, n4, n5, n6⟩ := next_inv m1
    rw [he]
    refine ⟨n1, n3.trans m5, n4.trans m4, ?_, fun hd' => by rw [hd] at hd'; cases hd'⟩
    have e3 : (XS.took { x with net := x.net.eraseIdx k }).net.length = (x.net.eraseIdx k).length := congrArg List.length m3
    omega
theorem tick_is (h : XInv t0 x) : x.dn = true ∧ x.tick = x ∨ x.dn = false ∧ (
    x.tick = { x with age := 0, W := 1, L := badL x.W, T := badT x.T, G := 0, net := x.net ++ [(frT (xrq x.ge (x.sq - 1) x.cur), false)] } ∨
    ((x.age + 1 : Nat) : Int) < x.T ∧ x.tick = { x with age := x.age + 1 }) := by
  by_cases hd : x.dn = true
  · exact .inl ⟨hd, by unfold XS.tick; rw [if_pos (.inl hd)]⟩
  · have hd : x.dn = false := by simpa using hd
    obtain ⟨a1, a2⟩ := h.ask hd
    have hk : x.ask.k ≠ 0 := by rw [a2]; exact xrq_k _ _ _
    have hs := h.s2
    refine .inr ⟨hd, ?_⟩
    unfold XS.tick
    rw [if_neg (by rw [hd]; rintro (h | h); cases h; exact hk h)]
    by_cases hT : x.T ≤ ((x.age + 1 : Nat) : Int)
    · rw [if_pos hT]
      refine .inl ?_
      refine (congrArg (fun f => XS.put f (XS.bad { x with age := 0 })) a2).trans ?_
      exact (put_frm (x := XS.bad { x with age := 0 }) (b := false) (e := x.ge) (q := x.sq - 1) h.fr (cur_ok h.fr h.tt h.ln) h.g2 (by omega))
    · rw [if_neg hT]
      exact .inr ⟨by omega, rfl⟩
theorem tick_inv (h : XInv t0 x) : XInv t0 x.tick ∧ x.tick.fr = x.fr ∧ x.tick.ge = x.ge ∧ x.tick.net.length ≤ x.net.length + 1 ∧ x.tick.dn = x.dn ∧ x.tick.tt = x.tt := by
  rcases tick_is h with ⟨hd, e⟩ | ⟨hd, e | ⟨hT, e⟩⟩
  · rw [e]
    exact ⟨h, rfl, rfl, by omega, rfl, rfl⟩
  · have hs := h.s2
    have hb := bad_ok h.flow
    have hT2 := hb.2.2.2.2.1
    obtain ⟨a1, a2⟩ := h.ask hd
    rw [e]
    refine ⟨⟨h.fr, h.tt, h.near, fun p hp => ?_, h.ep, h.g1, h.g2, h.sm, h.s2, ⟨by show 0 ≤ 64; omega, fun _ => by show ((0 : Nat) : Int) < badT x.T; omega⟩, hb, h.ln, h.l0, h.ask, h.op, h.done, h.fl⟩, rfl, rfl, by simp, rfl, rfl⟩
    rcases List.mem_append.1 hp with hp | hp
    · exact h.net p hp
    · rw [List.mem_singleton.1 hp]
      exact rq_pk h (cur_ok h.fr h.tt h.ln) (Nat.le_refl _) (by omega) (fun _ => ⟨by omega, fun _ _ => rfl⟩)
  · have hT2 := h.flow.2.2.2.2.2.1
    rw [e]
    exact ⟨⟨h.fr, h.tt, h.near, h.net, h.ep, h.g1, h.g2, h.sm, h.s2, ⟨by show x.age + 1 ≤ 64; omega, fun _ => hT⟩, h.flow, h.ln, h.l0, h.ask, h.op, h.done, h.fl⟩, rfl, rfl, by simp, rfl, rfl⟩
theorem begin_mid (hf : Small x.fr) (ht : Small x.tt) (hn : ∀ g ∈ x.tt, g ∈ t0 ∨ ∃ f ∈ x.fr, f.line = g.line ∧ (t0 = [] → f = g)) (hp : ∀ p ∈ x.net, ∃ (u : XW) (e q : Nat) (b : Bool), u.ok x.fr ∧ e ≤ x.ge ∧ q < 65536 ∧ (p = (frT (xfm x.fr b e q u), false) ∨ p.2 = true ∧ ∃ k, p.1 = XS.flip (frT (xfm x.fr b e q u)) k)) (hd : x.dn = false) (hg : x.ge < 2147483648) :
    XMid t0 { x with ge := x.ge + 1, ep := x.ge + 1, sq := 0, ask := zfr, age := 0, W := 1, L := 32, T := 2, G := 0, ln := [], kn := false, fu := [] } := by
  refine ⟨hf, ht, hn, fun p hp2 => ?_, rfl, by show 1 ≤ x.ge + 1; omega, by show x.ge + 1 ≤ _; omega, hd, ?_, by show 0 ≤ 64; omega, by show FlowOk 1 32 2 0; unfold FlowOk; omega, fun h => (by cases h), fun _ => rfl, by show 0 ≤ 0; omega⟩
  · obtain ⟨u, e, q, b, h1, h2, h3, h4⟩ := hp p hp2
    exact ⟨u, e, q, b, h1, by show e ≤ x.ge + 1; omega, h3, fun he => by have he : e = x.ge + 1 := he; omega, h4⟩
  · unfold XS.mu
    rw [if_pos rfl]
    show 0 + (2 * x.fr.length + 1) ≤ 2 * x.fr.length + 1
    omega
theorem begin_law (h : XInv t0 x) : Stepped t0 x x.begins := by
  unfold XS.begins
  by_cases hd : x.dn = true
  · rw [if_pos hd]
    exact ⟨h, rfl, by omega, by omega, fun hd => ⟨hd, rfl⟩⟩
  · rw [if_neg hd]
    by_cases hg : 2147483648 ≤ x.ge
    · rw [if_pos hg]
      exact ⟨h, rfl, by omega, by omega, fun hd => ⟨hd, rfl⟩⟩
    · rw [if_neg hg]
      have M := begin_mid (t0 := t0) h.fr h.tt h.near (fun p hp => by obtain ⟨u, e, q, b, h1, h2, h3, _, h4⟩ := h.net p hp; exact ⟨u, e, q, b, h1, h2, h3, h4⟩) (by simpa using hd) (by omega)
      obtain ⟨n1, n2, n3, n4, n5, n6⟩ := next_inv M
      exact ⟨n1, n3, by rw [n4]; exact Nat.le_refl _, n5, fun hd' => absurd hd' hd⟩
theorem start_inv {fr t : List PF} (hf : Small fr) (ht : Small t) : XInv t (XS.start fr t) ∧ (XS.start fr t).fr = fr ∧ (XS.start fr t).ge = 1 ∧ (XS.start fr t).net.length ≤ 1 := by
  have M := begin_mid (t0 := t) (x := ⟨fr, t, 0, [], 0, 0, zfr, 0, 1, 32, 2, 0, [], false, [], false⟩) hf ht (fun g hg => .inl hg) (fun p hp => by cases hp) rfl (by show 0 < 2147483648; omega)
  obtain ⟨n1, n2, n3, n4, n5, n6⟩ := next_inv M
  unfold XS.start XS.begins
  rw [if_neg (by simp), if_neg (by simp)]
  exact ⟨n1, n3, n4, n5⟩
theorem turn_inv (h : XInv t0 x) (q : Nat) : Stepped t0 x (x.turn q) := by
  unfold XS.turn
  cases hn : x.net with
  | nil => exact ⟨h, rfl, Nat.le_succ _, Nat.le_succ _, fun hd => ⟨hd, rfl⟩⟩
  | cons p r =>
    simp only []
    by_cases hp : p.2 = true
    · rw [if_pos hp]
      exact ⟨h, rfl, by omega, by omega, fun hd => ⟨hd, rfl⟩⟩
    · rw [if_neg hp]
      refine ⟨net_inv h (fun p' hp' => ?_), rfl, by show x.ge ≤ _; omega, by simp [hn], fun hd => ⟨hd, rfl⟩⟩
      rcases List.mem_cons.1 hp' with rfl | hp'
      · obtain ⟨u, e, q', b, h1, h2, h3, h4, h5⟩ := h.net p (by rw [hn]; simp)
        refine ⟨u, e, q', b, h1, h2, h3, h4, .inr ⟨rfl, q, ?_⟩⟩
        rcases h5 with h5 | ⟨h5, _⟩
        · rw [h5]
        · exact absurd h5 hp
      · exact h.net p' (by rw [hn]; exact List.mem_cons_of_mem _ hp')
/-- each deed keeps what holds -/
theorem act_law (h : XInv t0 x) (v : Int) : Stepped t0 x (x.act v) := by
  unfold XS.act
  by_cases h0 : v < 0
  · rw [if_pos h0]; exact ⟨h, rfl, by omega, by omega, fun hd => ⟨hd, rfl⟩⟩
  rw [if_neg h0]
  simp only []
  by_cases h6 : v.toNat % 8 = 6
  · rw [if_pos h6]
    obtain ⟨t1, t2, t3, t4, t5, t6⟩ := tick_inv h
    exact ⟨t1, t2, by omega, t4, fun hd => ⟨t5.trans hd, t6⟩⟩
  rw [if_neg h6]
  by_cases h7 : v.toNat % 8 = 7
  · rw [if_pos h7]; exact begin_law h
  rw [if_neg h7]
  by_cases hn : x.net = []
  · rw [if_pos hn]; exact ⟨h, rfl, by omega, by omega, fun hd => ⟨hd, rfl⟩⟩
  rw [if_neg hn]
  have hpos : 0 < x.net.length := List.length_pos_iff.2 hn
  have hm : v.toNat / 8 % x.net.length < x.net.length := Nat.mod_lt _ hpos
  by_cases h3 : v.toNat % 8 < 3
  · rw [if_pos h3]
    obtain ⟨t1, t2, t3, t4, t5⟩ := come_law h _ hm
    exact ⟨t1, t2, by omega, by omega, t5⟩
  rw [if_neg h3]
  by_cases h3' : v.toNat % 8 = 3
  · rw [if_pos h3']
    exact ⟨erase_inv h _, rfl, by show x.ge ≤ _; omega, by show (x.net.eraseIdx _).length ≤ _; rw [List.length_eraseIdx]; split <;> omega, fun hd => ⟨hd, rfl⟩⟩
  rw [if_neg h3']
  by_cases h4 : v.toNat % 8 = 4
  · rw [if_pos h4]
    by_cases h5 : x.net.length < 500
    · rw [if_pos h5, List.getElem?_eq_getElem hm]
      refine ⟨net_inv h (fun p hp => ?_), rfl, by show x.ge ≤ _; omega, by simp, fun hd => ⟨hd, rfl⟩⟩
      rcases List.mem_append.1 hp with hp | hp
      · exact h.net p hp
      · have : p = x.net[v.toNat / 8 % x.net.length] := by simpa using hp
        rw [this]; exact h.net _ (List.getElem_mem hm)
    · rw [if_neg h5]; exact ⟨h, rfl, by omega, by omega, fun hd => ⟨hd, rfl⟩⟩
  rw [if_neg h4]
  exact turn_inv h _

/-! ### the end -/
def gan (x : XS) : List UInt8 × Bool := (frT (xan x.fr x.ge (x.sq - 1) x.cur), false)
def grq (x : XS) : List UInt8 × Bool := (frT (xrq x.ge (x.sq - 1) x.cur), false)
theorem comes_law (n : Nat) : ∀ {x : XS}, XInv t0 x → n ≤ x.net.length →
    XInv t0 (XS.comes n x) ∧ (XS.comes n x).fr = x.fr ∧ (XS.comes n x).ge = x.ge ∧ (XS.comes n x).net.length ≤ x.net.length ∧ (x.dn = true → (XS.comes n x).dn = true ∧ (XS.comes n x).tt = x.tt) ∧
    (x.dn = false → ((XS.comes n x).dn = true ∨ (XS.comes n x).mu < x.mu) ∨ ∃ l, XS.comes n x = { x with net := l } ∧ (∀ p ∈ x.net.drop n, p ∈ l) ∧ (∀ p ∈ x.net.take n, p ≠ gan x) ∧ (∀ p ∈ x.net.take n, p = grq x → gan x ∈ l)) := by
  induction n with
  | zero =>
    intro x h hn
    refine ⟨h, rfl, rfl, Nat.le_refl _, fun hd => ⟨hd, rfl⟩, fun hd => .inr ⟨x.net, rfl, fun p hp => by simpa using hp, fun p hp => by simp at hp, fun p hp => by simp at hp⟩⟩
  | succ n ih =>
    intro x h hn
    have hne : x.net ≠ [] := fun e => by rw [e] at hn; simp at hn
    have h0 : 0 < x.net.length := by omega
    have ec : XS.comes (n + 1) x = XS.comes n (x.come 0) := by
      show (if x.net = [] then x else XS.comes n (x.come 0)) = _
      rw [if_neg hne]
    obtain ⟨p0, r, hnet⟩ : ∃ p0 r, x.net = p0 :: r := by
      cases e : x.net with
      | nil => exact absurd e hne
      | cons p0 r => exact ⟨p0, r, rfl⟩
    have her : x.net.eraseIdx 0 = r := by rw [hnet]; rfl
    have hr : n ≤ r.length := by rw [hnet] at hn; simpa using hn
    have hp0 : x.net[0]'h0 = p0 := by simp [hnet]
    have hs := h.s2
    obtain ⟨c1, c2, c3, c4, c5⟩ := come_law h 0 h0
    have hcok := cur_ok h.fr h.tt h.ln
    have hg2 := h.g2
    have okA : frC (xfm x.fr true x.ge (x.sq - 1) x.cur) = 0 := frm_ok h.fr hcok hg2 (by omega)
    have okR : frC (xfm x.fr false x.ge (x.sq - 1) x.cur) = 0 := frm_ok h.fr hcok hg2 (by omega)
    -- what stays when the packet makes nothing new
    have stay : ∀ add : List (List UInt8 × Bool), x.come 0 = { x with net := r ++ add } → (x.dn = false → p0 ≠ gan x) → (x.dn = false → p0 = grq x → gan x ∈ add) →
        XInv t0 (XS.comes n (x.come 0)) ∧ (XS.comes n (x.come 0)).fr = x.fr ∧ (XS.comes n (x.come 0)).ge = x.ge ∧ (XS.comes n (x.come 0)).net.length ≤ x.net.length ∧ (x.dn = true → (XS.comes n (x.come 0)).dn = true ∧ (XS.comes n (x.come 0)).tt = x.tt) ∧
        (x.dn = false → ((XS.comes n (x.come 0)).dn = true ∨ (XS.comes n (x.come 0)).mu < x.mu) ∨ ∃ l, XS.comes n (x.come 0) = { x with net := l } ∧ (∀ p ∈ x.net.drop (n + 1), p ∈ l) ∧ (∀ p ∈ x.net.take (n + 1), p ≠ gan x) ∧ (∀ p ∈ x.net.take (n + 1), p = grq x → gan x ∈ l)) := by
      intro add he ha hq
      rw [he] at c1 c4 ⊢
      have c4 : (r ++ add).length ≤ x.net.length := c4
      obtain ⟨i1, i2, i3, i4, i5, i6⟩ := ih c1 (by show n ≤ (r ++ add).length; rw [List.length_append]; omega)
      refine ⟨i1, i2, i3, Nat.le_trans i4 c4, i5, fun hd => ?_⟩
      rcases i6 hd with i6 | ⟨l, e1, e2, e3, e4⟩
      · exact .inl i6
      · have hdr : ∀ p, p ∈ r.drop n ∨ p ∈ add → p ∈ l := fun p hp => e2 p (by
          show p ∈ (r ++ add).drop n
          rw [List.drop_append_of_le_length hr]
          exact List.mem_append.2 hp)
        have htk : (r ++ add).take n = r.take n := List.take_append_of_le_length hr
        have e3 : ∀ p ∈ (r ++ add).take n, p ≠ gan x := e3
        have e4 : ∀ p ∈ (r ++ add).take n, p = grq x → gan x ∈ l := e4
        rw [htk] at e3 e4
        refine .inr ⟨l, e1, fun p hp => hdr p (.inl (by rw [hnet] at hp; simpa using hp)), fun p hp => ?_, fun p hp e => ?_⟩
        · rw [hnet, List.take_succ_cons] at hp
          rcases List.mem_cons.1 hp with rfl | hp
          · exact ha hd
          · exact e3 p hp
        · rw [hnet, List.take_succ_cons] at hp
          rcases List.mem_cons.1 hp with rfl | hp
          · exact hdr _ (.inr (hq hd e))
          · exact e4 p hp e
    rw [ec]
    cases came h 0 h0 with
    | bad hb he =>
      rw [hp0] at hb
      rw [her] at he
      refine stay [] (by rw [List.append_nil]; exact he) (fun _ e => ?_) (fun _ e => ?_)
      · rw [e] at hb
        exact hb (by show (decF (frT (xfm x.fr true x.ge (x.sq - 1) x.cur))).2 = 0; rw [dec_enc _ okA])
      · rw [e] at hb
        exact absurd (by show (decF (frT (xfm x.fr false x.ge (x.sq - 1) x.cur))).2 = 0; rw [dec_enc _ okR]) hb
    | req u e q hu h1 h2 hr' hb he hp =>
      rw [hp0] at hb
      rw [her] at hp
      refine stay _ hp (fun hd e' => ?_) (fun hd e' => ?_)
      · rw [e'] at hb
        have : decF (frT (xfm x.fr true x.ge (x.sq - 1) x.cur)) = (xrq e q u, 0) := hb
        rw [dec_enc _ okA] at this
        have k1 := congrArg (fun z => z.1.k) this
        exact absurd (by have := rq_kind e q u; rw [← k1] at this; exact this) (an_kind x.fr x.ge (x.sq - 1) x.cur)
      · rw [e'] at hb
        have : decF (frT (xfm x.fr false x.ge (x.sq - 1) x.cur)) = (xrq e q u, 0) := hb
        rw [dec_enc _ okR] at this
        have hf : xrq x.ge (x.sq - 1) x.cur = xrq e q u := congrArg Prod.fst this
        have k1 : e = x.ge := by have := congrArg PFr.e hf; rw [xrq_e, xrq_e] at this; omega
        have k2 : q = x.sq - 1 := by have := congrArg PFr.q hf; rw [xrq_q, xrq_q] at this; omega
        have k3 := (hr' k1).2 (by have := (h.ask hd).1; omega) hd
        rw [k1, k2, k3]
        exact List.mem_singleton.2 rfl
    | old u e q hu h1 h2 hr' hb hc he =>
      rw [hp0] at hb
      rw [her] at he
      refine stay [] (by rw [List.append_nil]; exact he) (fun hd e' => ?_) (fun hd e' => ?_)
      · obtain ⟨a1, a2⟩ := h.ask hd
        rw [e'] at hb
        have : decF (frT (xfm x.fr true x.ge (x.sq - 1) x.cur)) = (xan x.fr e q u, 0) := hb
        rw [dec_enc _ okA] at this
        have hf : xan x.fr x.ge (x.sq - 1) x.cur = xan x.fr e q u := congrArg Prod.fst this
        have hk : x.ask.k ≠ 0 := by rw [a2]; exact xrq_k _ _ _
        have hg := h.g1
        rw [← hf] at hc
        rcases hc with hc | hc | hc | hc | hc
        · rw [hd] at hc; cases hc
        · exact hk hc
        · exact hc (by rw [a2, xan_q, xrq_q])
        · omega
        · exact hc (xan_e _ _ _ _)
      · rw [e'] at hb
        have : decF (frT (xfm x.fr false x.ge (x.sq - 1) x.cur)) = (xan x.fr e q u, 0) := hb
        rw [dec_enc _ okR] at this
        have k1 := congrArg (fun z => z.1.k) this
        exact absurd (by have := rq_kind x.ge (x.sq - 1) x.cur; rw [show (xrq x.ge (x.sq - 1) x.cur).k = (xan x.fr e q u).k from k1] at this; exact this) (an_kind x.fr e q u)
    | now hd ha hq hg he1 hb he =>
      obtain ⟨m1, m2, m3, m4, m5⟩ := taken_inv (erase_inv h 0) hd
      obtain ⟨n1, n2, n3, n4, n5, n6⟩ := next_inv m1
      have e3 : (XS.took { x with net := x.net.eraseIdx 0 }).net.length = r.length := by rw [m3]; exact congrArg List.length her
      rw [← he] at n2 n6
      have m2 : (XS.took { x with net := x.net.eraseIdx 0 }).mu < x.mu := m2
      obtain ⟨i1, i2, i3, i4, i5, i6⟩ := ih c1 (by omega)
      refine ⟨i1, i2.trans c2, i3.trans c3, by omega, fun hd' => (by rw [hd] at hd'; cases hd'), fun _ => .inl ?_⟩
      cases hd1 : (x.come 0).dn with
      | true => exact .inl (i5 hd1).1
      | false =>
        have hm : (x.come 0).mu < x.mu := by
          rcases n2 with n2 | n2
          · rw [hd1] at n2; cases n2
          · omega
        rcases i6 hd1 with (i6 | i6) | ⟨l, e1, _⟩
        · exact .inl i6
        · exact .inr (by omega)
        · refine .inr ?_
          rw [e1]
          exact hm
open Classical in
noncomputable def ph (x : XS) : Nat := if gan x ∈ x.net then 0 else if grq x ∈ x.net then 1 else 2 + (64 - x.age)
theorem ph_le (x : XS) : ph x ≤ 66 := by unfold ph; (repeat' split) <;> omega
theorem ph_ans (h : gan x ∈ x.net) : ph x = 0 := by unfold ph; rw [if_pos h]
theorem ph_req (h : grq x ∈ x.net) : ph x ≤ 1 := by unfold ph; rw [if_pos h]; split <;> omega
theorem ph_age (x : XS) : ph x ≤ 2 + (64 - x.age) := by unfold ph; (repeat' split) <;> omega
theorem ph_none (h1 : gan x ∉ x.net) (h2 : grq x ∉ x.net) : ph x = 2 + (64 - x.age) := by unfold ph; rw [if_neg h1, if_neg h2]
theorem ph_some (h1 : gan x ∉ x.net) : 1 ≤ ph x := by unfold ph; rw [if_neg h1]; split <;> omega
/-- what is still to be done: no turn leaves it as it is -/
noncomputable def left (x : XS) : Nat := x.mu * 67 + ph x
def XS.round (x : XS) : XS := (XS.comes x.net.length x).tick
theorem mu_le (h : XInv t0 x) : x.mu ≤ 41 := by
  have := x.needs_le
  have := h.fr.wf.few
  unfold XS.mu
  split <;> omega
theorem left_le (h : XInv t0 x) : left x ≤ 3000 := by
  have := mu_le h
  have := ph_le x
  unfold left
  omega
theorem round_law (h : XInv t0 x) : XInv t0 x.round ∧ x.round.fr = x.fr ∧ x.round.ge = x.ge ∧ x.round.net.length ≤ x.net.length + 1 ∧ (x.dn = true → x.round.dn = true ∧ x.round.tt = x.tt) ∧ (x.dn = false → x.round.dn = true ∨ left x.round < left x) := by
  obtain ⟨c1, c2, c3, c4, c5, c6⟩ := comes_law x.net.length h (Nat.le_refl _)
  have hr : x.round = (XS.comes x.net.length x).tick := rfl
  rw [hr]
  generalize XS.comes x.net.length x = y at *
  obtain ⟨t1, t2, t3, t4, t5, t6⟩ := tick_inv c1
  refine ⟨t1, t2.trans c2, t3.trans c3, by omega, fun hd => ⟨t5.trans (c5 hd).1, t6.trans (c5 hd).2⟩, fun hd => ?_⟩
  cases hdy : y.dn with
  | true => exact .inl (t5.trans hdy)
  | false =>
    refine .inr ?_
    have hmu : y.tick.mu = y.mu := by
      rcases tick_is c1 with ⟨_, e⟩ | ⟨_, e | ⟨_, e⟩⟩ <;> rw [e] <;> rfl
    rcases c6 hd with (hy | hy) | ⟨l, e1, e2, e3, e4⟩
    · rw [hdy] at hy; cases hy
    · have := ph_le y.tick
      unfold left
      omega
    · rw [List.take_length] at e3 e4
      have hno : gan x ∉ x.net := fun hm => e3 _ hm rfl
      have hmx : y.mu = x.mu := by rw [e1]; rfl
      have hgy : gan y = gan x := by rw [e1]; rfl
      have hqy : grq y = grq x := by rw [e1]; rfl
      have hay : y.age = x.age := by rw [e1]
      have hly : y.net = l := by rw [e1]
      have hcase : (gan x ∈ y.net → gan y.tick ∈ y.tick.net) ∧ (grq y.tick ∈ y.tick.net ∨ y.tick.age = x.age + 1) := by
        rcases tick_is c1 with ⟨h1, _⟩ | ⟨_, e | ⟨_, e⟩⟩
        · rw [hdy] at h1; cases h1
        · rw [e]
          refine ⟨fun hm => ?_, .inl ?_⟩
          · show gan y ∈ y.net ++ _
            rw [hgy]
            exact List.mem_append_left _ hm
          · show grq y ∈ y.net ++ [grq y]
            simp
        · rw [e]
          refine ⟨fun hm => ?_, .inr ?_⟩
          · show gan y ∈ y.net
            rw [hgy]
            exact hm
          · show y.age + 1 = _
            rw [hay]
      have hage : x.age < 64 := by
        have := h.age.2 hd
        have := h.flow.2.2.2.2.2.1
        omega
      unfold left
      rw [hmu, hmx]
      by_cases hq : grq x ∈ x.net
      · have hg := e4 _ hq rfl
        rw [← hly] at hg
        have := ph_ans (hcase.1 hg)
        have := ph_some hno
        omega
      · rw [ph_none hno hq]
        rcases hcase.2 with hr | hr
        · have := ph_req hr
          omega
        · have := ph_age y.tick
          omega
theorem fin_step (n : Nat) (x : XS) (h : x.dn = false) : XS.fin (n + 1) x = XS.fin n x.round := by
  show (if x.dn = true then x else _) = _
  rw [if_neg (by rw [h]; simp)]
  rfl
theorem fin_done (n : Nat) (x : XS) (h : x.dn = true) : XS.fin n x = x := by
  cases n with
  | zero => rfl
  | succ n => show (if x.dn = true then x else _) = _; rw [if_pos h]
theorem fin_law (n : Nat) : ∀ {x : XS}, XInv t0 x → (x.dn = true ∨ left x ≤ n) → (XS.fin n x).dn = true ∧ XInv t0 (XS.fin n x) ∧ (XS.fin n x).fr = x.fr ∧ (XS.fin n x).ge = x.ge ∧ (XS.fin n x).net.length ≤ x.net.length + n := by
  induction n with
  | zero =>
    intro x h hl
    cases hd : x.dn with
    | true => exact ⟨hd, h, rfl, rfl, by simp [XS.fin]⟩
    | false =>
      rcases hl with hl | hl
      · rw [hd] at hl; cases hl
      · exfalso
        obtain ⟨_, _, _, _, _, r6⟩ := round_law h
        rcases r6 hd with r | r
        · have : 1 ≤ left x := by
            cases hk : x.kn with
            | false =>
              have : x.mu = 2 * x.fr.length + 1 := by unfold XS.mu; rw [if_pos hk]
              unfold left; omega
            | true =>
              obtain ⟨f0, hf0, hno, _, _⟩ := took_one h hd hk
              have hm : x.mu = (x.fr.map x.need).sum := by unfold XS.mu; rw [if_neg (by simp [hk])]
              have hpos : (x.fr.map fun _ => 0).sum < (x.fr.map x.need).sum := sum_lt (fun _ _ => Nat.zero_le _) hf0 (by unfold XS.need; rw [if_neg hno]; split <;> omega)
              unfold left; omega
          omega
        · omega
  | succ n ih =>
    intro x h hl
    cases hd : x.dn with
    | true => rw [fin_done _ _ hd]; exact ⟨hd, h, rfl, rfl, by omega⟩
    | false =>
      obtain ⟨r1, r2, r3, r4, r5, r6⟩ := round_law h
      rw [fin_step n x hd]
      obtain ⟨i1, i2, i3, i4, i5⟩ := ih r1 (by
        rcases r6 hd with r | r
        · exact .inl r
        · rcases hl with hl | hl
          · rw [hd] at hl; cases hl
          · exact .inr (by omega))
      exact ⟨i1, i2, i3.trans r2, i4.trans r3, by omega⟩
end
end Go.Proofs.YtppkeophochgiaaGreatDoor
/- Contracts of a transfer: listed, tick. -/
namespace Go.Proofs.YtppkeophochgiaaGreatDoor
open Go.RowKit
set_option linter.unusedVariables false
section
variable {E : Nat → Addr} {w0 w : World} {xb : Nat} {A : XA} {x : XS}
/-- the lines change -/
theorem XAt.setLn (h : XAt w0 w xb A x) {b : Nat} {r : Value} {l : List PL} (hr : w.ownsRow b 179 3 r l.length (lcells l)) (hb : w0.heap.size ≤ b) : XAt w0 (w.setCell ⟨xb, 12, none⟩ r) xb { A with vl := r } { x with ln := l } := by
  have hc := XCell.chg w xb 12 r
  have hq := h.rest.xset h.cells h.lx 12 r
  obtain ⟨es, c, hm⟩ := h.fu.isMap
  refine ⟨h.cells.set 12 r rfl, ⟨hq.fr, hq.tt, hq.nt, own_other (owns_mono' hr hb) hc (fun z hz e => own_ne hr h.cells (by decide) (by rw [hz, e])), hq.gt, hq.lm, hq.bel⟩, ?_, ?_, h.ne, h.lx, h.lf, h.lu⟩
  · exact (hc.block A.fb h.fl.lt (cells_ne h.fl h.cells (by decide))).trans h.fl
  · exact h.fu.kept (hc.block A.ub h.fu.lt (fun e => cells_map h.cells hm e.symm))
theorem XAt.setKn (h : XAt w0 w xb A x) (b : Bool) : XAt w0 (w.setCell ⟨xb, 13, none⟩ (.bool b)) xb A { x with kn := b } :=
  h.set 13 (.bool b) (A' := A) (x' := { x with kn := b }) rfl ⟨rfl, rfl, rfl⟩ ⟨rfl, rfl, rfl, rfl, rfl⟩ (fun w2 h => ⟨h.fr, h.tt, h.nt, h.ln, h.gt, h.lm, h.bel⟩)
theorem XAt.setAge (h : XAt w0 w xb A x) (a : Nat) : XAt w0 (w.setCell ⟨xb, 10, none⟩ (.int .i64 a)) xb A { x with age := a } :=
  h.set 10 (.int .i64 a) (A' := A) (x' := { x with age := a }) rfl ⟨rfl, rfl, rfl⟩ ⟨rfl, rfl, rfl, rfl, rfl⟩ (fun w2 h => ⟨h.fr, h.tt, h.nt, h.ln, h.gt, h.lm, h.bel⟩)
/-- the flow changes -/
theorem XAt.flow (h : XAt w0 w xb A x) {w' : World} {W L T G : Int} (hc : Chg w w' (fun b => b = A.fb)) (hf : FlowAt w' A.fb W L T G) : XAt w0 w' xb A { x with W := W, L := L, T := T, G := G } := by
  have hq := h.rest.at hc h.fl (by decide) h.lf
  obtain ⟨es, c, hm⟩ := h.fu.isMap
  refine ⟨?_, ⟨hq.fr, hq.tt, hq.nt, hq.ln, hq.gt, hq.lm, hq.bel⟩, hf, ?_, h.ne, h.lx, h.lf, h.lu⟩
  · exact (hc.block xb (lt_of_block h.cells) (fun e => cells_ne h.fl h.cells (by decide) e.symm)).trans h.cells
  · exact h.fu.kept (hc.block A.ub h.fu.lt (fun e => cells_map h.fl hm e.symm))
set_option maxRecDepth 100000 in
set_option maxHeartbeats 6400000 in
theorem xlisted_any (d : List UInt8) (h : XAt w0 w xb A x) (h0 : (readLn d).2 = 0) (hd : d.length ≤ 100000000) (h1 : Has E w0 1) (h2 : Has E w0 2) (h5 : Has E w0 5) (h8 : Has E w0 8) (h9 : Has E w0 9) :
    Calls Tryz.prog 229 #[.pointer (some ⟨xb, 0, none⟩), .string (bs d)] w fun e w' => e = .returned (.tuple #[]) ∧ ∃ A', XAt w0 w' xb A' (x.listed d) := by
  have HS := Lib.hid (fun (c : Nat) (hh : Has E w0 c) => hh.below h.rest.bel)
  have RD := flread_any E (bs d) w (by rw [bs_size]; exact hd) (HS.out 1 h1) (HS.out 2 h2) (HS.out 5 h5) (HS.out 8 h8) (HS.out 9 h9)
  rw [bs_list, h0, ev_zero] at RD
  have RD := Lib.hid RD
  have HX := Lib.hid h
  have XL : x.listed d = { x with ln := (readLn d).1, kn := true } := by unfold XS.listed; rw [if_pos h0]
  rw [XL]
  clear h h0 hd h1 h2 h5 h8 h9 HS XL
  generalize (readLn d).1 = l at *
  go_enter Tryz.func229, Tryz.ntmps229
  go_wp2_with fail
  refine RD.out.mono ?_
  rintro e w1 ⟨v, rfl, o1, b1⟩
  have X1 := HX.out.below b1
  have X2 := Lib.hid ((X1.setLn o1 HX.out.rest.bel.size).setKn true)
  have f12 := X1.cells.fz 12
  have f13 := X1.cells.fz 13
  have c12 := X1.cells.cs.2.2.2.2.2.2.2.2.2.2.2.2.1
  have c13 := X1.cells.cs.2.2.2.2.2.2.2.2.2.2.2.2.2.1
  obtain ⟨va, vc, rfl⟩ := owns_slice o1
  clear o1 b1 RD HX X1
  go_wp2_with fail
  go_returns
  exact ⟨rfl, _, X2.out⟩
set_option maxRecDepth 100000 in
set_option maxHeartbeats 6400000 in
theorem xtick_any (h : XAt w0 w xb A x) (ok : FlowOk x.W x.L x.T x.G) (ha : x.age ≤ 1000000) (hn : x.net.length ≤ 1000000000) (h2 : Has E w0 2) (h4 : Has E w0 4) :
    Calls Tryz.prog 157 #[.pointer (some ⟨xb, 0, none⟩)] w fun e w' => e = .returned (.tuple #[]) ∧ ∃ A', XAt w0 w' xb A' x.tick := by
  have HX := Lib.hid h
  have c15 := h.cells.cs.2.2.2.2.2.2.2.2.2.2.2.2.2.2.2
  by_cases hd : x.dn = true
  · have XL : x.tick = x := by unfold XS.tick; rw [if_pos (.inl hd)]
    rw [XL]
    rw [hd] at c15
    clear h h2 h4 ok XL hd
    go_enter Tryz.func157, Tryz.ntmps157
    go_wp2_with fail
    go_returns
    exact ⟨rfl, A, HX.out⟩
  · have hd0 : x.dn = false := by simpa using hd
    rw [hd0] at c15
    have c6 := h.cells.cs.2.2.2.2.2.2.1
    by_cases hk : x.ask.k = 0
    · have XL : x.tick = x := by unfold XS.tick; rw [if_pos (.inr hk)]
      rw [XL]
      rw [hk, show (((0 : UInt8).toNat : Nat) : Int) = 0 from rfl] at c6
      clear h h2 h4 ok XL hd hk hd0
      go_enter Tryz.func157, Tryz.ntmps157
      go_wp2_with fail
      go_returns
      exact ⟨rfl, A, HX.out⟩
    · have hkk : (((x.ask.k.toNat : Nat) : Int) == 0) = false := by
        rw [beq_eq_false_iff_ne]
        intro e
        exact hk (UInt8.toNat_inj.1 (by simpa using e))
      generalize hkI : ((x.ask.k.toNat : Nat) : Int) = kk at c6 hkk
      have c10 := h.cells.cs.2.2.2.2.2.2.2.2.2.2.1
      have f10 := h.cells.fz 10
      have X1 := Lib.hid (h.setAge (x.age + 1))
      have hw : IntKind.i64.wrap ((x.age : Int) + 1) = ((x.age + 1 : Nat) : Int) := by rw [IntWalk.i64_in _ (by omega)]; omega
      have c6' := X1.out.cells.cs.2.2.2.2.2.2.1
      generalize hage : x.age = age at *
      generalize hage1 : age + 1 = age1 at *
      clear h
      by_cases hT : x.T ≤ (age1 : Int)
      · have XL : x.tick = XS.put x.ask { x with age := 0 }.bad := by unfold XS.tick; rw [if_neg (by rintro (h | h) <;> contradiction), if_pos (by rw [hage, hage1]; exact hT)]
        rw [XL]
        have hTd : decide (x.T ≤ (age1 : Int)) = true := by simpa using hT
        have PT := Lib.hid (fun (w' : World) (X : XAt w0 w' xb A { x with age := 0 }.bad) => xput_any (E := E) x.ask X hn (h2.below X.rest.bel) (h4.below X.rest.bel))
        have OK := Lib.hid ok
        clear XL hd hk hd0 h2 h4 ok
        go_enter Tryz.func157, Tryz.ntmps157
        go_wp2_with fail
        generalize w.setCell ⟨xb, 10, none⟩ (.int .i64 age1) = w1 at *
        have c10 := X1.out.cells.cs.2.2.2.2.2.2.2.2.2.2.1
        have c11 := X1.out.cells.cs.2.2.2.2.2.2.2.2.2.2.2.1
        have WT := Lib.hid (fun n => wait_is A.fb x.W x.L x.T x.G (w1.drewN n) (X1.out.fl.drewN n))
        go_quiet ((go_at_call 190; exact Calls.quiet_of_same (WT.out _)))
        have Y1 := Lib.hid (X1.out.below (below_drewN (Below.refl _ w1) nq))
        generalize w1.drewN nq = w2 at *
        clear X1 c10 c11 c6 c6' c15 f10 WT
        have f10 := Y1.out.cells.fz 10
        have c10 := Y1.out.cells.cs.2.2.2.2.2.2.2.2.2.2.1
        have c11 := Y1.out.cells.cs.2.2.2.2.2.2.2.2.2.2.2.1
        have Y2 := Lib.hid (Y1.out.setAge 0)
        go_wp2_with fail
        refine (bad_is A.fb x.W x.L x.T x.G _ Y2.out.fl OK.out).mono ?_
        rintro e w3 ⟨rfl, hf, hg⟩
        have Y3 : XAt w0 w3 xb A { x with age := 0 }.bad := Y2.out.flow ⟨hg.os, hg.tape, hg.output, hg.size, fun k hk hn => hg.block k hk (fun e => hn (by cases e; rfl))⟩ hf
        have PT3 := PT.out w3 Y3
        rw [PFr.val_is, hkI] at PT3
        have PT3 := Lib.hid PT3
        have c6 := Y3.cells.cs.2.2.2.2.2.2.1
        have c7 := Y3.cells.cs.2.2.2.2.2.2.2.1
        have c8 := Y3.cells.cs.2.2.2.2.2.2.2.2.1
        have c9 := Y3.cells.cs.2.2.2.2.2.2.2.2.2.1
        have e6 : (XS.bad { x with age := 0 }).ask = x.ask := rfl
        rw [e6] at c6 c7 c8 c9
        rw [hkI] at c6
        clear hf hg Y1 Y2 Y3 OK PT c10 c11 f10 e6
        go_wp2_with fail
        refine PT3.out.mono ?_
        rintro e w4 ⟨rfl, A', hA⟩
        have HA := Lib.hid hA
        clear hA PT3
        go_wp2_with fail
        go_returns
        exact ⟨rfl, A', HA.out⟩
      · have XL : x.tick = { x with age := age1 } := by unfold XS.tick; rw [if_neg (by rintro (h | h) <;> contradiction), if_neg (by rw [hage, hage1]; exact hT), hage, hage1]
        rw [XL]
        have hTd : decide (x.T ≤ (age1 : Int)) = false := by simpa using hT
        clear XL hd hk hd0 h2 h4 ok
        go_enter Tryz.func157, Tryz.ntmps157
        go_wp2_with fail
        generalize w.setCell ⟨xb, 10, none⟩ (.int .i64 age1) = w1 at *
        have c10 := X1.out.cells.cs.2.2.2.2.2.2.2.2.2.2.1
        have c11 := X1.out.cells.cs.2.2.2.2.2.2.2.2.2.2.2.1
        have WT := Lib.hid (fun n => wait_is A.fb x.W x.L x.T x.G (w1.drewN n) (X1.out.fl.drewN n))
        go_quiet ((go_at_call 190; exact Calls.quiet_of_same (WT.out _)))
        have Y1 := Lib.hid (X1.out.below (below_drewN (Below.refl _ w1) nq))
        generalize w1.drewN nq = w2 at *
        clear X1 c10 c11 c6 c6' c15 f10 WT
        go_wp2_with fail
        go_returns
        exact ⟨rfl, A, Y1.out⟩
end
end Go.Proofs.YtppkeophochgiaaGreatDoor
/- Contract of a transfer: Finish. -/
namespace Go.Proofs.YtppkeophochgiaaGreatDoor
open Go.RowKit
set_option linter.unusedVariables false
/-- the contract of come, where all holds that is to hold -/
def ComeOk (w0 : World) (xb : Nat) (t0 : List PF) : Prop := ∀ (x : XS) (k : Nat) (w : World) (A : XA), XInv t0 x → XAt w0 w xb A x → k < x.net.length → x.net.length ≤ 1000000000 →
    Calls Tryz.prog 158 #[.pointer (some ⟨xb, 0, none⟩), .int .i64 k] w fun e w' => e = .returned (.tuple #[]) ∧ ∃ A', XAt w0 w' xb A' (x.come k)
section
variable {E : Nat → Addr} {w0 w : World} {xb : Nat} {A : XA} {x : XS} {t0 : List PF}
theorem comes_step {x : XS} {n : Nat} (h : 0 < x.net.length) : XS.comes (n + 1) x = XS.comes n (x.come 0) := by
  show (if x.net = [] then x else XS.comes n (x.come 0)) = _
  rw [if_neg (fun e => by rw [e] at h; simp at h)]
theorem comes_none {x : XS} {n : Nat} (h : x.net.length = 0) : XS.comes n x = x := by
  cases n with
  | zero => rfl
  | succ n => show (if x.net = [] then x else XS.comes n (x.come 0)) = _; rw [if_pos (List.eq_nil_of_length_eq_zero h)]
def turnsN : Nat := 1048576
theorem turnsN_is : turnsN = 1048576 := rfl
attribute [irreducible] turnsN
/-- a round of packets and a tick -/
theorem fin_tick {x x' : XS} {n : Nat} (hd : x.dn = false) (h : XS.comes x.net.length x = x') : XS.fin (n + 1) x = XS.fin n x'.tick := by
  rw [fin_step n x hd]
  unfold XS.round
  rw [h]
set_option maxRecDepth 100000 in
set_option maxHeartbeats 12800000 in
theorem xfinish_any (hI : XInv t0 x) (h : XAt w0 w xb A x) (hn : x.net.length ≤ 1000000) (hg : x.ge ≤ 100000) (CM : ComeOk w0 xb t0) (h2 : Has E w0 2) (h4 : Has E w0 4) :
    Calls Tryz.prog 116 #[.pointer (some ⟨xb, 0, none⟩)] w fun e w' => e = .returned (.bool true) ∧ ∃ A', XAt w0 w' xb A' (XS.fin turnsN x) := by
  have FD := Lib.hid (fin_law turnsN hI (.inr (by have := left_le hI; have := turnsN_is; omega))).1
  have CMH := Lib.hid CM
  have TK := Lib.hid (fun (x' : XS) (hI : XInv t0 x') (w' : World) (A' : XA) (h : XAt w0 w' xb A' x') (hn : x'.net.length ≤ 1000000000) => xtick_any (E := E) h hI.flow (by have := hI.age.1; omega) hn h2 h4)
  have HX := Lib.hid h
  have HI := Lib.hid hI
  have HN := Lib.hid hn
  clear h hI hn hg CM h2 h4
  go_enter Tryz.func116, Tryz.ntmps116
  go_wp2_with fail
  go_loopw [4, 3] (fun i n wr => ∃ (k : Nat) (x' : XS) (A' : XA), i = .int .i64 k ∧ k ≤ turnsN ∧ XAt w0 wr xb A' x' ∧ XInv t0 x' ∧ XS.fin (turnsN - k) x' = XS.fin turnsN x ∧ x'.net.length ≤ 1000000 + k) (fun i _ _ => turnsN - (intOf i).toNat)
  case atStart => exact ⟨0, x, A, rfl, by omega, HX.out, HI.out, rfl, HN.out⟩
  case round =>
    obtain ⟨k, x', A', rfl, hk, hX, hI, hf, hn⟩ := hrel
    clear HX HI HN
    have c15 := hX.cells.cs.2.2.2.2.2.2.2.2.2.2.2.2.2.2.2
    have hT := turnsN_is
    by_cases hlt : k < turnsN
    · have hltI : (k : Int) < 1048576 := by omega
      by_cases hd : x'.dn = true
      · rw [hd] at c15
        rw [fin_done _ _ hd] at hf
        have HXF := Lib.hid hX
        have HF := Lib.hid hf
        clear hX hf hI hd
        go_wp2_with fail
        go_ret
        exact ⟨rfl, A', by rw [← HF.out]; exact HXF.out⟩
      · have hd : x'.dn = false := by simpa using hd
        rw [hd] at c15
        have c3 := hX.cells.cs.2.2.2.1
        obtain ⟨va, vc, hv⟩ := owns_slice hX.rest.nt
        rw [hv] at c3
        have HXF := Lib.hid hX
        have HI := Lib.hid hI
        obtain ⟨m, hm⟩ : ∃ m, x'.net.length = m := ⟨_, rfl⟩
        obtain ⟨r, hr⟩ : ∃ r, turnsN - k = r + 1 := ⟨turnsN - k - 1, by omega⟩
        have HF := Lib.hid (fun (y : XS) (h : XS.comes m x' = y) => (fin_tick (x' := y) (n := r) hd (by rw [hm]; exact h)).symm.trans ((congrArg (fun n => XS.fin n x') hr).symm.trans hf))
        have KK := Lib.hid (show k + 1 ≤ turnsN ∧ turnsN - (k + 1) = r by omega)
        have HM := Lib.hid (show x'.net.length ≤ m by omega)
        have HT := Lib.hid hT
        have HLT := Lib.hid hlt
        have hkw : IntKind.i64.wrap ((k : Int) + 1) = (k : Int) + 1 := IntWalk.i64_in _ (by omega)
        rw [hm] at c3 hn
        have HNN := Lib.hid hn
        have HMS : m ≤ 1000000000 := by have := turnsN_is; omega
        clear hX hf hI hr hT hlt hk hv hn hm
        rename_i hdd
        clear hd hdd
        go_wp2_with fail
        clear hltI
        go_loopw [3] (fun i wr => ∃ (j : Nat) (y : XS) (A' : XA), i = .int .i64 j ∧ j ≤ m ∧ XAt w0 wr xb A' y ∧ XInv t0 y ∧ XS.comes j y = XS.comes m x' ∧ y.net.length ≤ m) (fun i _ => (intOf i).toNat)
        case atStart => exact ⟨m, x', A', rfl, Nat.le_refl _, HXF.out, HI.out, rfl, HM.out⟩
        case round =>
          clear HXF HI HM c3 c15
          obtain ⟨j, y, A1, rfl, hj, hX, hI, hc, hny⟩ := hrel
          have c3 := hX.cells.cs.2.2.2.1
          obtain ⟨ya, yc, hv⟩ := owns_slice hX.rest.nt
          rw [hv] at c3
          by_cases hj0 : j = 0
          · subst hj0
            have HF2 := Lib.hid (HF.out y hc.symm)
            have T := Lib.hid (TK.out y hI _ A1 hX (by omega))
            have TI := Lib.hid (tick_inv hI)
            have HNY := Lib.hid hny
            clear HF hc hX hI hv hny hj HMS
            go_wp2_with fail
            refine T.out.mono ?_
            rintro e w9 ⟨rfl, A9, hA⟩
            have HA := Lib.hid hA
            clear hA T c3
            go_wp2_with fail
            go_roundw
            case rel => exact ⟨k + 1, _, A9, by go_num, KK.out.1, HA.out, TI.out.1, by rw [KK.out.2]; exact HF2.out, by have := TI.out.2.2.2.1; have := HNN.out; have := HNY.out; omega⟩
            case measure => (have := HT.out; have := HLT.out; simp [intOf]; omega)
          · have hjI : (0 : Int) < j := by omega
            by_cases hn0 : y.net.length = 0
            · rw [comes_none hn0] at hc
              have HF2 := Lib.hid (HF.out y hc.symm)
              have T := Lib.hid (TK.out y hI _ A1 hX (by omega))
              have TI := Lib.hid (tick_inv hI)
              rw [hn0] at c3
              have HNY := Lib.hid hny
              clear HF hc hX hI hv hj0 hn0 hny hj HMS
              go_wp2_with fail
              refine T.out.mono ?_
              rintro e w9 ⟨rfl, A9, hA⟩
              have HA := Lib.hid hA
              clear hA T c3
              go_wp2_with fail
              go_roundw
              case rel => exact ⟨k + 1, _, A9, by go_num, KK.out.1, HA.out, TI.out.1, by rw [KK.out.2]; exact HF2.out, by have := TI.out.2.2.2.1; have := HNN.out; have := HNY.out; omega⟩
              case measure => (have := HT.out; have := HLT.out; simp [intOf]; omega)
            · have hnI : (0 : Int) < y.net.length := by omega
              obtain ⟨j', rfl⟩ : ∃ j', j = j' + 1 := ⟨j - 1, by omega⟩
              rw [comes_step (by omega)] at hc
              have C := Lib.hid (CMH.out y 0 _ A1 hI hX (by omega) (by omega))
              have CI := Lib.hid (come_law hI 0 (by omega))
              have HC := Lib.hid hc
              have HNY := Lib.hid hny
              have HJ := Lib.hid hj
              have hjw : IntKind.i64.wrap (((j' + 1 : Nat) : Int) - 1) = (j' : Int) := by rw [IntWalk.i64_in _ (by omega)]; omega
              generalize hJI : ((j' + 1 : Nat) : Int) = jI at *
              have HJI := Lib.hid hJI
              clear hc hX hI hv hj0 hn0 hny hj hJI HMS
              go_wp2_with fail
              refine C.out.mono ?_
              rintro e w9 ⟨rfl, A9, hA⟩
              have HA := Lib.hid hA
              clear hA C c3
              go_wp2_with fail
              go_roundw
              case rel => exact ⟨j', _, A9, by go_num, by have := HJ.out; omega, HA.out, CI.out.1, HC.out, by have := CI.out.2.2.2.1; have := HNY.out; omega⟩
              case measure => (have := HJI.out; simp [intOf]; omega)
    · have hltI : ¬ (k : Int) < 1048576 := by omega
      have hk0 : turnsN - k = 0 := by omega
      rw [hk0] at hf
      have hf : x' = XS.fin turnsN x := hf
      have hdn : x'.dn = true := by have := FD.out; rw [← hf] at this; exact this
      rw [hdn] at c15
      have HXF := Lib.hid hX
      have HF := Lib.hid hf
      clear hX hf hI hdn hT
      go_wp2_with fail
      go_ret
      refine ⟨rfl, A', ?_⟩
      have h1 := HF.out
      have h2 := turnsN_is
      rw [← h1]
      exact HXF.out
end
end Go.Proofs.YtppkeophochgiaaGreatDoor
