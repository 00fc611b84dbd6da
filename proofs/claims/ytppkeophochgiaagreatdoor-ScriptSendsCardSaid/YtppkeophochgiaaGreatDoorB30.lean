/- Texts of one proof, one behind the other: XferLaws, XferLaw2. -/
import Derived.Test.YtppkeophochgiaaGreatDoorB28
import Derived.Test.YtppkeophochgiaaGreatDoorB29
import Derived.Test.YtppkeophochgiaaGreatDoorB25
/- The plain laws of a transfer: what is under way, and what each deed keeps. No program is in sight. -/
namespace Go.Proofs.YtppkeophochgiaaGreatDoor
open Go.RowKit
set_option linter.unusedVariables false

/-- what may be asked: all lines, or one file, of what is there -/
inductive XW
  | all
  | one (n o d : List UInt8)
def sgT (o : List UInt8) : List UInt8 := sText (blks (sizeN o.length) o) (sizeN o.length)
def opO (o d : List UInt8) : List POp := mkOps (blks (sizeN o.length) o) (sizeN o.length) d
def xrq (e q : Nat) : XW → PFr
  | .all => ⟨108, e, q, []⟩
  | .one n o d => ⟨103, e, q, XS.two n (sgT o)⟩
def xan (fr : List PF) (e q : Nat) : XW → PFr
  | .all => ⟨109, e, q, flText (fr.map PF.line)⟩
  | .one n o d => ⟨111, e, q, XS.two n (dtL (opO o d))⟩
def xfm (fr : List PF) (b : Bool) (e q : Nat) (u : XW) : PFr := if b then xan fr e q u else xrq e q u
structure Small (l : List PF) : Prop where
  wf : FWF l
  len : ∀ f ∈ l, f.d.length ≤ 200
def XW.ok (fr : List PF) : XW → Prop
  | .all => True
  | .one n o d => (⟨n, d⟩ : PF) ∈ fr ∧ o.length ≤ 200

/-! ### what is written is read -/
theorem opO_ok {o d : List UInt8} (ho : o.length ≤ 200) (hd : d.length ≤ 200) : OkOut (opO o d) d.length := by
  have hz := sizeN_is (o.length : Int)
  have hb := blks_few o (by omega)
  exact mkOps_ok _ _ _ (by omega) (by omega)
theorem opO_chk {o d : List UInt8} (ho : o.length ≤ 200) (hd : d.length ≤ 200) : (chkOps (opO o d)).1 = 0 :=
  (chkOps_ok _).2 ((opO_ok ho hd).chk (by omega))
theorem opO_short {o d : List UInt8} (ho : o.length ≤ 200) (hd : d.length ≤ 200) : ¬ 20000 < (oText (opO o d)).length ∧ (opsT (opO o d)).length ≤ 100000000 :=
  oText_short (by have := (opO_ok ho hd).1; omega) (by have := (opO_ok ho hd).2.1; omega)
theorem opO_dt {o d : List UInt8} (ho : o.length ≤ 200) (hd : d.length ≤ 200) : dtC (opO o d) = (0, -1) ∧ dtL (opO o d) = oText (opO o d) := dt_fine (opO_chk ho hd) (opO_short ho hd).1
theorem opO_read {o d : List UInt8} (ho : o.length ≤ 200) (hd : d.length ≤ 200) : readO (dtL (opO o d)) = (opO o d, 0) := by
  rw [(opO_dt ho hd).2]
  exact readO_text _ (opO_chk ho hd) (by have := (opO_ok ho hd).1; omega) (opO_short ho hd).1
theorem sgT_read {o : List UInt8} (ho : o.length ≤ 200) : readSg (sgT o) = (blks (sizeN o.length) o, sizeN o.length, 0) ∧ (chk (blks (sizeN o.length) o) (sizeN o.length)).1 = 0 := by
  have hz := sizeN_is (o.length : Int)
  have hc := blks_chk (sizeN o.length) o (by omega) (by omega) (by omega)
  exact ⟨read_text _ _ (by rw [hc]) (blks_S _ _), by rw [hc]⟩
theorem two_read {a b : List UInt8} (ha : a.length ≤ 20000) (hb : b.length ≤ 20000) : rtT (XS.two a b) 0 = a ∧ rtR (XS.two a b) 0 = num b.length ++ b ∧ rtC (XS.two a b) 0 = 0 ∧
    rtT (num b.length ++ b) 0 = b ∧ rtR (num b.length ++ b) 0 = [] ∧ rtC (num b.length ++ b) 0 = 0 := by
  obtain ⟨p1, p2, p3⟩ := t_text a (num b.length ++ b) ha
  obtain ⟨q1, q2, q3⟩ := t_text b [] hb
  rw [List.append_nil] at q1 q2 q3
  unfold XS.two
  exact ⟨(rt_zero _).1.trans p2, (rt_zero _).2.1.trans p3, (rt_zero _).2.2.trans p1, (rt_zero _).1.trans q2, (rt_zero _).2.1.trans q3, (rt_zero _).2.2.trans q1⟩
theorem two_len (a b : List UInt8) : (XS.two a b).length ≤ 14 + a.length + b.length := by
  have h1 := num_len a.length
  have h2 := num_len b.length
  unfold XS.two
  simp only [List.length_append]
  omega
theorem sgT_len {o : List UInt8} (ho : o.length ≤ 200) : (sgT o).length ≤ 2000 := by
  have hz := sizeN_is (o.length : Int)
  have hb := blks_few o (by omega)
  have := sText_len (blks (sizeN o.length) o) (sizeN o.length) (by omega) (by omega)
  unfold sgT
  omega
theorem lText_len {l : List PL} (h : LWF l) : (flText l).length ≤ 2000 := by
  have h1 := lnText_len l (fun x hx => ((nameB_iff _).1 (h.each x hx).1).2.1)
  have h2 := h.few
  have h3 := num_len l.length
  rw [flText_is, List.length_append]
  omega
theorem dtL_len {o d : List UInt8} (ho : o.length ≤ 200) (hd : d.length ≤ 200) : (dtL (opO o d)).length ≤ 19000 := by
  have h := opO_ok ho hd
  have := opsT_len (opO o d)
  have := num_len (opO o d).length
  have h1 := h.1
  have h2 := h.2.1
  rw [(opO_dt ho hd).2, oText_is, List.length_append]
  omega
theorem Small.name {l : List PF} (h : Small l) {f : PF} (hf : f ∈ l) : f.n.length ≤ 12 := ((nameB_iff _).1 (h.wf.each f hf).1).2.1
theorem frm_ok {fr : List PF} (h : Small fr) {b : Bool} {e q : Nat} {u : XW} (hu : u.ok fr) (he : e ≤ 2147483648) (hq : q < 65536) : frC (xfm fr b e q u) = 0 := by
  have hl := lText_len h.wf.lines
  cases u with
  | all =>
    cases b
    · exact frC_fine (by simp [xfm, xrq]) ⟨by simp [xfm, xrq]; omega, by simp [xfm, xrq]; omega, by simp [xfm, xrq]⟩
    · exact frC_fine (by simp [xfm, xan]) ⟨by simp [xfm, xan]; omega, by simp [xfm, xan]; omega, by simp only [xfm, xan, if_true]; omega⟩
  | one n o d =>
    obtain ⟨h1, h2⟩ := hu
    have hn := h.name h1
    have hd : d.length ≤ 200 := h.len _ h1
    have g1 := two_len n (sgT o)
    have g2 := two_len n (dtL (opO o d))
    have g3 := sgT_len h2
    have g4 := dtL_len h2 hd
    simp only [] at hn hd
    cases b
    · exact frC_fine (by simp [xfm, xrq]) ⟨by simp [xfm, xrq]; omega, by simp [xfm, xrq]; omega, by simp only [xfm, xrq, Bool.false_eq_true, if_false]; omega⟩
    · exact frC_fine (by simp [xfm, xan]) ⟨by simp [xfm, xan]; omega, by simp [xfm, xan]; omega, by simp only [xfm, xan, if_true]; omega⟩
/-- a bit of a frame's text is turned: it is none -/
theorem flip_none (f : PFr) (q : Nat) : decF (XS.flip (frT f) q) = (zfr, 10) := by
  have hl : 0 < (frT f).length := by rw [frT_is, List.length_append, lowL_len]; omega
  have h1 : q % (8 * (frT f).length) / 8 < (frT f).length := by
    have := Nat.mod_lt q (show 0 < 8 * (frT f).length by omega)
    omega
  unfold XS.flip
  rw [List.getElem?_eq_getElem h1]
  refine dec_flip f _ _ h1 ?_
  have h8 : q % (8 * (frT f).length) % 8 < 8 := Nat.mod_lt _ (by omega)
  generalize q % (8 * (frT f).length) % 8 = r at h8
  have : r = 0 ∨ r = 1 ∨ r = 2 ∨ r = 3 ∨ r = 4 ∨ r = 5 ∨ r = 6 ∨ r = 7 := by omega
  rcases this with rfl | rfl | rfl | rfl | rfl | rfl | rfl | rfl <;> decide

/-! ### what is wanted, and how much is still to be done -/
namespace XS
def plan (x : XS) : List PS := planL x.ln (x.tt.map PF.line)
def cur (x : XS) : XW :=
  if x.kn = false then .all
  else match x.plan.find? (fun s => s.k == kSend) with
    | some s => .one s.n (x.old s.n) (datOf x.fr s.n)
    | none => .all
def need (x : XS) (f : PF) : Nat := if f.line ∈ x.tt.map PF.line then 0 else if x.fu.contains f.n then 1 else 2
def mu (x : XS) : Nat := if x.kn = false then 2 * x.fr.length + 1 else (x.fr.map x.need).sum
end XS
theorem sum_le {l : List PF} {a b : PF → Nat} (h : ∀ f ∈ l, a f ≤ b f) : (l.map a).sum ≤ (l.map b).sum := by
  induction l with
  | nil => simp
  | cons f l ih =>
    have h1 := h f (by simp)
    have h2 := ih (fun g hg => h g (by simp [hg]))
    simp only [List.map_cons, List.sum_cons]
    omega
theorem sum_lt {l : List PF} {a b : PF → Nat} (h : ∀ f ∈ l, a f ≤ b f) {f : PF} (hf : f ∈ l) (hl : a f < b f) : (l.map a).sum < (l.map b).sum := by
  induction l with
  | nil => simp at hf
  | cons g l ih =>
    have h1 := h g (by simp)
    simp only [List.map_cons, List.sum_cons]
    rcases List.mem_cons.1 hf with rfl | hf
    · have h2 := sum_le (fun g hg => h g (List.mem_cons_of_mem _ hg))
      omega
    · have h2 := ih (fun g hg => h g (List.mem_cons_of_mem _ hg)) hf
      omega
theorem XS.need_le (x : XS) (f : PF) : x.need f ≤ 2 := by unfold XS.need; (repeat' split) <;> omega
theorem XS.needs_le (x : XS) : (x.fr.map x.need).sum ≤ 2 * x.fr.length := by
  have : ∀ l : List PF, (l.map x.need).sum ≤ 2 * l.length := by
    intro l
    induction l with
    | nil => simp
    | cons f l ih =>
      have := x.need_le f
      simp only [List.map_cons, List.sum_cons, List.length_cons]
      omega
  exact this _

/-- a packet under way -/
def XPk (x : XS) (p : List UInt8 × Bool) : Prop :=
  ∃ (u : XW) (e q : Nat) (b : Bool), u.ok x.fr ∧ e ≤ x.ge ∧ q < 65536 ∧ (e = x.ge → q < x.sq ∧ (q + 1 = x.sq → x.dn = false → u = x.cur)) ∧
    (p = (frT (xfm x.fr b e q u), false) ∨ p.2 = true ∧ ∃ k, p.1 = XS.flip (frT (xfm x.fr b e q u)) k)
structure XInv (t0 : List PF) (x : XS) : Prop where
  fr : Small x.fr
  tt : Small x.tt
  near : ∀ g ∈ x.tt, g ∈ t0 ∨ ∃ f ∈ x.fr, f.line = g.line ∧ (t0 = [] → f = g)
  net : ∀ p ∈ x.net, XPk x p
  ep : x.ep = x.ge
  g1 : 1 ≤ x.ge
  g2 : x.ge ≤ 2147483648
  sm : x.dn = false → x.sq + x.mu ≤ 2 * x.fr.length + 2
  s2 : x.sq ≤ 42
  age : x.age ≤ 64 ∧ (x.dn = false → (x.age : Int) < x.T)
  flow : FlowOk x.W x.L x.T x.G
  ln : x.kn = true → x.ln = x.fr.map PF.line
  l0 : x.kn = false → x.ln = []
  ask : x.dn = false → 1 ≤ x.sq ∧ x.ask = xrq x.ge (x.sq - 1) x.cur
  op : x.dn = false → x.kn = true → ∃ s, x.plan.find? (fun s => s.k == kSend) = some s
  done : x.dn = true → x.tt.map PF.line = x.fr.map PF.line ∧ x.ask = zfr
  fl : x.dn = false → x.fu.length + 1 ≤ x.sq
/-- a packet, ahead of the next question -/
def XPk0 (x : XS) (p : List UInt8 × Bool) : Prop :=
  ∃ (u : XW) (e q : Nat) (b : Bool), u.ok x.fr ∧ e ≤ x.ge ∧ q < 65536 ∧ (e = x.ge → q < x.sq) ∧
    (p = (frT (xfm x.fr b e q u), false) ∨ p.2 = true ∧ ∃ k, p.1 = XS.flip (frT (xfm x.fr b e q u)) k)
/-- ahead of the next question -/
structure XMid (t0 : List PF) (x : XS) : Prop where
  fr : Small x.fr
  tt : Small x.tt
  near : ∀ g ∈ x.tt, g ∈ t0 ∨ ∃ f ∈ x.fr, f.line = g.line ∧ (t0 = [] → f = g)
  net : ∀ p ∈ x.net, XPk0 x p
  ep : x.ep = x.ge
  g1 : 1 ≤ x.ge
  g2 : x.ge ≤ 2147483648
  dn : x.dn = false
  sm : x.sq + x.mu ≤ 2 * x.fr.length + 1
  age : x.age ≤ 64
  flow : FlowOk x.W x.L x.T x.G
  ln : x.kn = true → x.ln = x.fr.map PF.line
  l0 : x.kn = false → x.ln = []
  fl : x.fu.length ≤ x.sq
theorem XPk.mid {x : XS} {p : List UInt8 × Bool} (h : XPk x p) : XPk0 x p := by
  obtain ⟨u, e, q, b, h1, h2, h3, h4, h5⟩ := h
  exact ⟨u, e, q, b, h1, h2, h3, fun he => (h4 he).1, h5⟩
theorem Small.old {x : XS} (h : Small x.tt) (n : List UInt8) : (x.old n).length ≤ 200 := by
  unfold XS.old
  by_cases hf : x.fu.contains n = true
  · rw [if_pos hf]; simp
  · rw [if_neg hf]
    cases hg : fgetL x.tt n with
    | none => simp
    | some d => exact h.len _ (fgetL_some hg)
theorem Small.old4 {x : XS} (h : Small x.tt) (n : List UInt8) : (x.old n).length ≤ 4000 := by have := h.old (x := x) n; omega
theorem Small.getd {l : List PF} (h : Small l) {f : PF} (hf : f ∈ l) : datOf l f.n = f.d := by
  unfold datOf
  rw [fgetL_of h.wf.sorted hf]
  rfl
/-- what is wanted next is one of the source's, and not there -/
theorem send_of {x : XS} (hf : Small x.fr) (ht : Small x.tt) (hl : x.ln = x.fr.map PF.line) {s : PS} (hs : x.plan.find? (fun s => s.k == kSend) = some s) :
    ∃ f ∈ x.fr, f.n = s.n ∧ f.line ∉ x.tt.map PF.line ∧ s.k = kSend := by
  have P := planL_law hf.wf.lines.sorted ht.wf.lines.sorted
  have h1 := List.mem_of_find?_eq_some hs
  have h2 : s.k = kSend := by simpa using List.find?_some hs
  unfold XS.plan at h1
  rw [hl] at h1
  rcases P.of s h1 with ⟨_, y, hy, e, hn⟩ | ⟨h, _⟩ | ⟨h, _⟩
  · obtain ⟨f, hf, rfl⟩ := List.mem_map.1 hy
    exact ⟨f, hf, e, hn, h2⟩
  · rw [h] at h2; exact absurd h2 (by decide)
  · rw [h] at h2; exact absurd h2 (by decide)
theorem cur_one {x : XS} (hk : x.kn = true) {s : PS} (hs : x.plan.find? (fun s => s.k == kSend) = some s) : x.cur = .one s.n (x.old s.n) (datOf x.fr s.n) := by
  unfold XS.cur
  rw [if_neg (by simp [hk]), hs]
theorem cur_all {x : XS} (hk : x.kn = false) : x.cur = .all := by unfold XS.cur; rw [if_pos hk]
theorem cur_ok {x : XS} (hf : Small x.fr) (ht : Small x.tt) (hl : x.kn = true → x.ln = x.fr.map PF.line) : x.cur.ok x.fr := by
  cases hk : x.kn with
  | false => rw [cur_all hk]; exact trivial
  | true =>
    cases hs : x.plan.find? (fun s => s.k == kSend) with
    | none =>
      unfold XS.cur
      rw [if_neg (by simp [hk]), hs]
      exact trivial
    | some s =>
      obtain ⟨f, hf1, e, _⟩ := send_of hf ht (hl hk) hs
      rw [cur_one hk hs]
      refine ⟨?_, ht.old _⟩
      rw [← e, hf.getd hf1]
      exact hf1
/-- a frame that is asked or answered goes into the net -/
theorem put_frm {x : XS} (hf : Small x.fr) {b : Bool} {e q : Nat} {u : XW} (hu : u.ok x.fr) (he : e ≤ 2147483648) (hq : q < 65536) : x.put (xfm x.fr b e q u) = { x with net := x.net ++ [(frT (xfm x.fr b e q u), false)] } := XS.put_yes (frm_ok hf hu he hq)
/-- the destination asks -/
theorem asks_inv {t0 : List PF} {x : XS} (h : XMid t0 x) (hop : x.kn = true → ∃ s, x.plan.find? (fun s => s.k == kSend) = some s) :
    x.asks (xrq x.ge x.sq x.cur).k (xrq x.ge x.sq x.cur).d = { x with net := x.net ++ [(frT (xfm x.fr false x.ge x.sq x.cur), false)], ask := xrq x.ge x.sq x.cur, sq := x.sq + 1, age := 0 } ∧
    XInv t0 { x with net := x.net ++ [(frT (xfm x.fr false x.ge x.sq x.cur), false)], ask := xrq x.ge x.sq x.cur, sq := x.sq + 1, age := 0 } := by
  have hfew := h.fr.wf.few
  have hsm := h.sm
  have hok := cur_ok h.fr h.tt h.ln
  have hT := h.flow.2.2.2.2.1
  constructor
  · have e1 : (⟨(xrq x.ge x.sq x.cur).k, x.ep, x.sq, (xrq x.ge x.sq x.cur).d⟩ : PFr) = xfm x.fr false x.ge x.sq x.cur := by
      rw [h.ep]
      cases x.cur <;> rfl
    unfold XS.asks
    rw [e1]
    refine (put_frm (x := { x with ask := _, sq := _, age := 0 }) h.fr hok h.g2 (by omega)).trans ?_
    have e2 : (x.sq + 1) % 65536 = x.sq + 1 := by omega
    rw [e2]
    rfl
  · refine ⟨h.fr, h.tt, h.near, ?_, h.ep, h.g1, h.g2, fun _ => by show x.sq + 1 + x.mu ≤ 2 * x.fr.length + 2; omega, by show x.sq + 1 ≤ 42; omega, ⟨by show 0 ≤ 64; omega, fun _ => by show ((0 : Nat) : Int) < x.T; omega⟩, h.flow, h.ln, h.l0, fun _ => ⟨by show 1 ≤ x.sq + 1; omega, ?_⟩, fun _ => hop, fun hd => ?_, fun _ => by show x.fu.length + 1 ≤ x.sq + 1; have := h.fl; omega⟩
    · intro p hp
      rcases List.mem_append.1 hp with hp | hp
      · obtain ⟨u, e, q, b, h1, h2, h3, h4, h5⟩ := h.net p hp
        exact ⟨u, e, q, b, h1, h2, h3, fun he => ⟨by have := h4 he; show q < x.sq + 1; omega, fun hq => by have := h4 he; have hq : q + 1 = x.sq + 1 := hq; omega⟩, h5⟩
      · have : p = (frT (xfm x.fr false x.ge x.sq x.cur), false) := by simpa using hp
        exact ⟨x.cur, x.ge, x.sq, false, hok, Nat.le_refl _, by omega, fun _ => ⟨by show x.sq < x.sq + 1; omega, fun _ _ => rfl⟩, .inl this⟩
    · show xrq x.ge x.sq x.cur = xrq x.ge (x.sq + 1 - 1) x.cur
      rw [Nat.add_sub_cancel]
    · have hd : x.dn = true := hd
      rw [h.dn] at hd
      cases hd
/-- what the destination does next -/
theorem next_inv {t0 : List PF} {x : XS} (h : XMid t0 x) : XInv t0 x.next ∧ (x.next.dn = true ∨ x.next.mu = x.mu) ∧ x.next.fr = x.fr ∧ x.next.ge = x.ge ∧ x.next.net.length ≤ x.net.length + 1 ∧ x.net.length ≤ x.next.net.length := by
  cases hk : x.kn with
  | false =>
    have e : x.next = x.asks (xrq x.ge x.sq x.cur).k (xrq x.ge x.sq x.cur).d := by rw [XS.next_ask hk, cur_all hk]; rfl
    obtain ⟨h1, h2⟩ := asks_inv h (fun e => by rw [hk] at e; cases e)
    rw [e, h1]
    exact ⟨h2, .inr rfl, rfl, rfl, by simp, by simp⟩
  | true =>
    cases hs : x.plan.find? (fun s => s.k == kSend) with
    | some s =>
      have e : x.next = x.asks (xrq x.ge x.sq x.cur).k (xrq x.ge x.sq x.cur).d := by
        unfold XS.next
        rw [if_neg (by simp [hk])]
        unfold XS.plan at hs
        rw [hs]
        rw [cur_one hk (by unfold XS.plan; exact hs)]
        rfl
      obtain ⟨h1, h2⟩ := asks_inv h (fun _ => ⟨s, hs⟩)
      rw [e, h1]
      exact ⟨h2, .inr rfl, rfl, rfl, by simp, by simp⟩
    | none =>
      have e : x.next = { x with tt := dropsTo x.plan x.tt, dn := true, ask := zfr } := by
        unfold XS.next
        rw [if_neg (by simp [hk])]
        unfold XS.plan at hs
        rw [hs]
        rfl
      have hsub : ∀ f ∈ dropsTo x.plan x.tt, f ∈ x.tt := fun f hf => ((dropsTo_mem _ _ _).1 hf).1
      have hno : ∀ s ∈ x.plan, s.k ≠ kSend := by
        intro s hs'
        have := List.find?_eq_none.1 hs s hs'
        simpa using this
      have hput : putsTo x.fr x.plan (dropsTo x.plan x.tt) = dropsTo x.plan x.tt := by
        have : ∀ (q : List PS) (l : List PF), (∀ s ∈ q, s.k ≠ kSend) → putsTo x.fr q l = l := by
          intro q
          induction q with
          | nil => intro l _; rfl
          | cons s q ih =>
            intro l hq
            unfold putsTo
            rw [List.foldl_cons, if_neg (hq s (by simp))]
            exact ih l (fun s hs => hq s (by simp [hs]))
        exact this _ _ hno
      have hkeep := keep_law h.fr.wf h.tt.wf
      rw [← h.ln hk] at hkeep
      have hpl : planL x.ln (x.tt.map PF.line) = x.plan := rfl
      rw [hpl, hput] at hkeep
      have hfew := h.fr.wf.few
      have hsm := h.sm
      rw [e]
      refine ⟨⟨h.fr, ⟨h.tt.wf.drops _, fun f hf => h.tt.len f (hsub f hf)⟩, fun g hg => h.near g (hsub g hg), ?_, h.ep, h.g1, h.g2, fun hd => (by cases hd), by show x.sq ≤ 42; omega, ⟨h.age, fun hd => (by cases hd)⟩, h.flow, h.ln, h.l0, fun hd => (by cases hd), fun hd => (by cases hd), fun _ => ⟨by rw [h.ln hk] at hkeep; exact hkeep, rfl⟩, fun hd => (by cases hd)⟩, .inl rfl, rfl, rfl, by simp, by simp⟩
      intro p hp
      obtain ⟨u, e, q, b, h1, h2, h3, h4, h5⟩ := h.net p hp
      exact ⟨u, e, q, b, h1, h2, h3, fun he => ⟨h4 he, fun _ hd => (by cases hd)⟩, h5⟩
end Go.Proofs.YtppkeophochgiaaGreatDoor
/- The plain laws of a transfer, second part: what comes, and each deed keeps what holds; every answer brings it nearer to its end. No program is in sight. -/
namespace Go.Proofs.YtppkeophochgiaaGreatDoor
open Go.RowKit
set_option linter.unusedVariables false

theorem line_n {f g : PF} (h : f.line = g.line) : f.n = g.n := congrArg PL.n h
theorem line_mk {n v : List UInt8} {f : PF} (hn : f.n = n) (h1 : v.length = f.d.length) (h2 : csum v = csum f.d) : (⟨n, v⟩ : PF).line = f.line := by
  unfold PF.line
  simp only [hn, h1, h2]
theorem find_line {fr : List PF} (hf : FWF fr) {f : PF} (h : f ∈ fr) : (fr.map PF.line).find? (fun y => y.n == f.n) = some f.line := by
  cases e : (fr.map PF.line).find? (fun y => y.n == f.n) with
  | none =>
    have := List.find?_eq_none.1 e f.line (List.mem_map_of_mem h)
    exact absurd (show (f.n == f.n) = true by simp) this
  | some y =>
    have h1 := List.mem_of_find?_eq_some e
    have h2 : y.n = f.n := by simpa using List.find?_some e
    rw [Srt.inj hf.lines.sorted h1 (List.mem_map_of_mem h) h2]
theorem wh_cases (old : List UInt8) (size : Int) (l : List POp) (n c : Int) :
    (whC old size l n c).1 ≠ 0 ∨ (whC old size l n c).1 = 0 ∧ ((whL old size l n c).length : Int) = n ∧ (csum (whL old size l n c) : Int) = c := by
  by_cases h : (whC old size l n c).1 = 0
  · refine .inr ⟨h, ?_⟩
    by_cases h1 : (appl old size l).1.1 = 0
    · by_cases h2 : ((appl old size l).2.length : Int) = n ∧ (csum (appl old size l).2 : Int) = c
      · rw [(wh_fine h1 h2).2]; exact h2
      · rw [(wh_sum h1 h2).1] at h; cases h
    · rw [(wh_bad h1).1] at h; exact absurd h h1
  · exact .inl h
theorem opO_nil {d : List UInt8} (hd : d.length ≤ 200) : (whC [] (sizeN (([] : List UInt8).length : Int)) (opO [] d) (d.length : Nat) (csum d : Nat)).1 = 0 ∧ whL [] (sizeN (([] : List UInt8).length : Int)) (opO [] d) (d.length : Nat) (csum d : Nat) = d := by
  have h := whole_nil d (sizeN (([] : List UInt8).length : Int)) (by have := sizeN_is (([] : List UInt8).length : Int); omega) (by have := sizeN_is (([] : List UInt8).length : Int); omega) (by omega)
  have e : opO [] d = mkOps [] (sizeN (([] : List UInt8).length : Int)) d := by
    unfold opO
    have : blks (sizeN (([] : List UInt8).length : Int)) [] = [] := by
      apply List.eq_nil_of_length_eq_zero
      rw [blks_len]
      have := sizeN_is (([] : List UInt8).length : Int)
      unfold cntOf
      exact Nat.div_eq_of_lt (by simp only [List.length_nil] at this ⊢; omega)
    rw [this]
  rw [e]
  have hw := wh_fine (old := []) (size := (sizeN (([] : List UInt8).length : Int) : Nat)) (l := mkOps [] (sizeN (([] : List UInt8).length : Int)) d) (n := (d.length : Nat)) (c := (csum d : Nat)) (by rw [h]) (by rw [h]; exact ⟨rfl, rfl⟩)
  rw [hw.1, hw.2, h]
  exact ⟨rfl, rfl⟩
section
variable {t0 : List PF} {x : XS}
theorem room_mem {g : PF} (h : g ∈ x.room) : g ∈ x.tt := by
  unfold XS.room at h
  by_cases h2 : 20 ≤ x.tt.length
  · rw [if_pos h2] at h; exact (List.mem_filter.1 h).1
  · rw [if_neg h2] at h; exact h
theorem room_has {g : PF} (hg : g ∈ x.tt) (hl : ∃ y ∈ x.ln, y.n = g.n) : g ∈ x.room := by
  unfold XS.room
  by_cases h2 : 20 ≤ x.tt.length
  · rw [if_pos h2]
    refine List.mem_filter.2 ⟨hg, ?_⟩
    obtain ⟨y, hy, e⟩ := hl
    exact List.any_eq_true.2 ⟨y, hy, by simp [e]⟩
  · rw [if_neg h2]; exact hg
theorem room_wf (h : FWF x.tt) : FWF x.room := by
  unfold XS.room
  by_cases h2 : 20 ≤ x.tt.length
  · rw [if_pos h2]; exact h.filter _
  · rw [if_neg h2]; exact h
theorem room_put (ht : FWF x.tt) (hl : LWF x.ln) {n v : List UInt8} (hn : ∃ y ∈ x.ln, y.n = n) (hv : v.length ≤ 4000) : FWF (fputL x.room n v) ∧ (putF x.room n v).1 = 0 := by
  have hr := room_wf ht
  have hnb : nameB n = true := by obtain ⟨y, hy, rfl⟩ := hn; exact (hl.each y hy).1
  have hlen : (fputL x.room n v).length ≤ 20 := by
    by_cases h2 : 20 ≤ x.tt.length
    · have hsub : ∀ m ∈ (fputL x.room n v).map PF.n, m ∈ x.ln.map PL.n := by
        intro m hm
        obtain ⟨g, hg, rfl⟩ := List.mem_map.1 hm
        rcases mem_fputL _ _ _ _ hg with rfl | hg
        · obtain ⟨y, hy, e⟩ := hn
          exact List.mem_map.2 ⟨y, hy, e⟩
        · unfold XS.room at hg
          rw [if_pos h2] at hg
          obtain ⟨y, hy, e⟩ := List.any_eq_true.1 (List.mem_filter.1 hg).2
          exact List.mem_map.2 ⟨y, hy, by simpa using e⟩
      have := nodup_sub (names_nodup (fputL_sorted n v hr.sorted)) hsub
      have hf := hl.few
      simp only [List.length_map] at this
      omega
    · have := fputL_len x.room n v
      have hroom : x.room = x.tt := by unfold XS.room; rw [if_neg h2]
      rw [hroom] at this ⊢
      omega
  have hp := hr.put hnb hv hlen
  exact ⟨hp, by rw [putF_ok ((flFault_wf _).2 hr)]; exact (flFault_wf _).2 hp⟩
theorem given_is {z : XS} {n o d : List UInt8} (hn : n.length ≤ 12) (ho : o.length ≤ 200) (hd : d.length ≤ 200) {y : PL} (hy : z.ln.find? (fun y => y.n == n) = some y) : z.given (XS.two n (dtL (opO o d))) = z.gave n (opO o d) y := by
  obtain ⟨p1, p2, p3, q1, q2, q3⟩ := two_read (a := n) (b := dtL (opO o d)) (by omega) (by have := dtL_len ho hd; omega)
  unfold XS.given
  rw [p1, p2, p3, q1, q2, q3, rEnd_nil, opO_read ho hd]
  simp [hy]
/-- a file is given: it is right, or it is asked for anew, as a whole -/
theorem gave_law {z : XS} (hfr : Small z.fr) (htt : Small z.tt) (hnear : ∀ g ∈ z.tt, g ∈ t0 ∨ ∃ f ∈ z.fr, f.line = g.line ∧ (t0 = [] → f = g)) (hln : z.ln = z.fr.map PF.line) {f0 : PF} (hf0 : f0 ∈ z.fr) (hno : f0.line ∉ z.tt.map PF.line) :
    Small (z.gave f0.n (opO (z.old f0.n) f0.d) f0.line).tt ∧ (∀ g ∈ (z.gave f0.n (opO (z.old f0.n) f0.d) f0.line).tt, g ∈ t0 ∨ ∃ f ∈ z.fr, f.line = g.line ∧ (t0 = [] → f = g)) ∧
    (z.gave f0.n (opO (z.old f0.n) f0.d) f0.line = { z with fu := (z.gave f0.n (opO (z.old f0.n) f0.d) f0.line).fu, tt := (z.gave f0.n (opO (z.old f0.n) f0.d) f0.line).tt }) ∧
    (z.fr.map (z.gave f0.n (opO (z.old f0.n) f0.d) f0.line).need).sum < (z.fr.map z.need).sum ∧ (z.gave f0.n (opO (z.old f0.n) f0.d) f0.line).fu.length ≤ z.fu.length + 1 := by
  have hd := hfr.len _ hf0
  have ho := htt.old (x := z) f0.n
  rcases wh_cases (z.old f0.n) (sizeN (z.old f0.n).length) (opO (z.old f0.n) f0.d) f0.line.N f0.line.S with hw | ⟨hw, v1, v2⟩
  · have e : z.gave f0.n (opO (z.old f0.n) f0.d) f0.line = { z with fu := f0.n :: z.fu } := by
      unfold XS.gave
      rw [if_pos hw]
    have hnf : z.fu.contains f0.n = false := by
      cases hc : z.fu.contains f0.n with
      | false => rfl
      | true =>
        exfalso
        have hold : z.old f0.n = [] := by unfold XS.old; rw [if_pos hc]
        rw [hold] at hw
        exact hw (opO_nil hd).1
    rw [e]
    refine ⟨htt, hnear, rfl, sum_lt (fun g hg => ?_) hf0 ?_, Nat.le_refl _⟩
    · show (if g.line ∈ z.tt.map PF.line then 0 else if (f0.n :: z.fu).contains g.n then 1 else 2) ≤ (if g.line ∈ z.tt.map PF.line then 0 else if z.fu.contains g.n then 1 else 2)
      by_cases h1 : g.line ∈ z.tt.map PF.line
      · rw [if_pos h1, if_pos h1]; omega
      · rw [if_neg h1, if_neg h1]
        by_cases h2 : z.fu.contains g.n = true
        · rw [if_pos h2, if_pos (by rw [List.contains_cons, h2]; simp)]; omega
        · rw [if_neg h2]
          split <;> omega
    · show (if f0.line ∈ z.tt.map PF.line then 0 else if (f0.n :: z.fu).contains f0.n then 1 else 2) < (if f0.line ∈ z.tt.map PF.line then 0 else if z.fu.contains f0.n then 1 else 2)
      rw [if_neg hno, if_neg hno, if_pos (by simp), if_neg (by rw [hnf]; simp)]
      omega
  · have hln' : LWF z.ln := by rw [hln]; exact hfr.wf.lines
    have hy : ∃ y ∈ z.ln, y.n = f0.n := ⟨f0.line, by rw [hln]; exact List.mem_map_of_mem hf0, rfl⟩
    obtain ⟨v, hv⟩ : ∃ v, whL (z.old f0.n) (sizeN (z.old f0.n).length) (opO (z.old f0.n) f0.d) f0.line.N f0.line.S = v := ⟨_, rfl⟩
    rw [hv] at v1 v2
    have l1 : v.length = f0.d.length := by
      have : ((v.length : Nat) : Int) = (f0.d.length : Nat) := v1
      omega
    have l2 : csum v = csum f0.d := by
      have : ((csum v : Nat) : Int) = (csum f0.d : Nat) := v2
      omega
    obtain ⟨hp1, hp2⟩ := room_put htt.wf hln' hy (v := v) (by omega)
    have e : z.gave f0.n (opO (z.old f0.n) f0.d) f0.line = { z with tt := fputL z.room f0.n v } := by
      unfold XS.gave
      rw [if_neg (by rw [hw]; simp), hv, if_pos hp2]
    have hlv : (⟨f0.n, v⟩ : PF).line = f0.line := line_mk rfl l1 l2
    have hmem : ∀ g ∈ fputL z.room f0.n v, g = ⟨f0.n, v⟩ ∨ g ∈ z.tt := fun g hg => by
      rcases mem_fputL _ _ _ _ hg with h | h
      · exact .inl h
      · exact .inr (room_mem h)
    rw [e]
    refine ⟨⟨hp1, fun g hg => ?_⟩, fun g hg => ?_, rfl, sum_lt (fun g hg => ?_) hf0 ?_, Nat.le_succ _⟩
    · rcases hmem g hg with rfl | h
      · show v.length ≤ 200; omega
      · exact htt.len g h
    · rcases hmem g hg with rfl | h
      · refine .inr ⟨f0, hf0, hlv.symm, fun h0 => ?_⟩
        have hold : z.old f0.n = [] := by
          have hg : fgetL z.tt f0.n = none := by
            cases hg : fgetL z.tt f0.n with
            | none => rfl
            | some d0 =>
              exfalso
              have hm := fgetL_some hg
              rcases hnear _ hm with h1 | ⟨f, hf, h1, h2⟩
              · rw [h0] at h1; cases h1
              · have h3 := h2 h0
                have h4 : f = f0 := Sr.inj hfr.wf.sorted hf hf0 (by rw [h3])
                rw [← h4] at hno
                exact hno (List.mem_map.2 ⟨_, hm, h1.symm⟩)
          unfold XS.old
          rw [hg]
          split <;> rfl
        rw [hold] at hv
        have := (opO_nil hd).2.symm.trans hv
        rw [← this]
      · exact hnear g h
    · show (if g.line ∈ (fputL z.room f0.n v).map PF.line then 0 else if z.fu.contains g.n then 1 else 2) ≤ (if g.line ∈ z.tt.map PF.line then 0 else if z.fu.contains g.n then 1 else 2)
      by_cases h0 : g.n = f0.n
      · have : g = f0 := Sr.inj hfr.wf.sorted hg hf0 h0
        subst this
        have : g.line ∈ (fputL z.room g.n v).map PF.line := List.mem_map.2 ⟨_, fputL_mem _ _ _, hlv⟩
        rw [if_pos this]; omega
      · by_cases h1 : g.line ∈ z.tt.map PF.line
        · have : g.line ∈ (fputL z.room f0.n v).map PF.line := by
            obtain ⟨c, hc, ec⟩ := List.mem_map.1 h1
            have hcn := line_n ec
            refine List.mem_map.2 ⟨c, fputL_other (room_has hc ⟨g.line, by rw [hln]; exact List.mem_map_of_mem hg, hcn.symm⟩) (by rw [hcn]; exact h0), ec⟩
          rw [if_pos this]; omega
        · rw [if_neg h1]
          by_cases h3 : g.line ∈ (fputL z.room f0.n v).map PF.line
          · rw [if_pos h3]; omega
          · rw [if_neg h3]; omega
    · have : f0.line ∈ (fputL z.room f0.n v).map PF.line := List.mem_map.2 ⟨_, fputL_mem _ _ _, hlv⟩
      show (if f0.line ∈ (fputL z.room f0.n v).map PF.line then 0 else if z.fu.contains f0.n then 1 else 2) < (if f0.line ∈ z.tt.map PF.line then 0 else if z.fu.contains f0.n then 1 else 2)
      rw [if_neg hno, if_pos this]
      split <;> omega
/-- what the destination makes of the answer to what it asked -/
def XS.took (x : XS) : XS := if (xan x.fr x.ge (x.sq - 1) x.cur).k = 109 then XS.listed (xan x.fr x.ge (x.sq - 1) x.cur).d x.good else XS.given (xan x.fr x.ge (x.sq - 1) x.cur).d x.good
theorem took_all (h : XInv t0 x) (hk : x.kn = false) : x.took = { x.good with ln := x.fr.map PF.line, kn := true } := by
  unfold XS.took
  rw [cur_all hk]
  show XS.listed (flText (x.fr.map PF.line)) x.good = _
  unfold XS.listed
  rw [readLn_text _ h.fr.wf.lines (lines_sum _)]
  rfl
theorem took_one (h : XInv t0 x) (hd : x.dn = false) (hk : x.kn = true) : ∃ f0 ∈ x.fr, f0.line ∉ x.tt.map PF.line ∧ x.cur = .one f0.n (x.old f0.n) f0.d ∧ x.took = x.good.gave f0.n (opO (x.old f0.n) f0.d) f0.line := by
  obtain ⟨s, hs⟩ := h.op hd hk
  obtain ⟨f0, hf0, hn, hno, _⟩ := send_of h.fr h.tt (h.ln hk) hs
  have hc := cur_one hk hs
  rw [← hn, h.fr.getd hf0] at hc
  refine ⟨f0, hf0, hno, hc, ?_⟩
  unfold XS.took
  rw [hc]
  show XS.given (XS.two f0.n (dtL (opO (x.old f0.n) f0.d))) x.good = _
  exact given_is (h.fr.name hf0) (h.tt.old _) (h.fr.len _ hf0) (by show x.ln.find? _ = _; rw [h.ln hk]; exact find_line h.fr.wf hf0)
/-- the answer to what was asked comes, and is taken -/
theorem taken_inv (h : XInv t0 x) (hd : x.dn = false) : XMid t0 x.took ∧ x.took.mu < x.mu ∧ x.took.net = x.net ∧ x.took.ge = x.ge ∧ x.took.fr = x.fr := by
  have hsm := h.sm hd
  have hfew := h.fr.wf.few
  have hflow := good_ok h.flow
  cases hk : x.kn with
  | false =>
    have hmu : x.mu = 2 * x.fr.length + 1 := by unfold XS.mu; rw [if_pos hk]
    rw [took_all h hk]
    have hlt : XS.mu { x.good with ln := x.fr.map PF.line, kn := true } < x.mu := by
      rw [hmu]
      have := XS.needs_le { x.good with ln := x.fr.map PF.line, kn := true }
      unfold XS.mu
      rw [if_neg (by simp)]
      have e : (XS.fr { x.good with ln := x.fr.map PF.line, kn := true }).length = x.fr.length := rfl
      omega
    refine ⟨⟨h.fr, h.tt, h.near, fun p hp => (h.net p hp).mid, h.ep, h.g1, h.g2, hd, ?_, h.age.1, hflow, fun _ => rfl, fun hk => (by cases hk), by show x.fu.length ≤ x.sq; have := h.fl hd; omega⟩, hlt, rfl, rfl, rfl⟩
    show x.sq + _ ≤ 2 * x.fr.length + 1
    omega
  | true =>
    obtain ⟨f0, hf0, hno, hc, ht⟩ := took_one h hd hk
    obtain ⟨g1, g2, g3, g4, g5⟩ := gave_law (t0 := t0) (z := x.good) h.fr h.tt h.near (h.ln hk) hf0 hno
    have hold : x.good.old f0.n = x.old f0.n := rfl
    rw [hold, ← ht] at g1 g2 g3 g4 g5
    have hmu : x.mu = (x.fr.map x.need).sum := by unfold XS.mu; rw [if_neg (by simp [hk])]
    have hkn : x.took.kn = true := by rw [g3]; exact hk
    have hfr : x.took.fr = x.fr := by rw [g3]; rfl
    have hmu2 : x.took.mu = (x.fr.map x.took.need).sum := by unfold XS.mu; rw [if_neg (by simp [hkn]), hfr]
    have e5 : (x.good.fr.map x.good.need).sum = (x.fr.map x.need).sum := rfl
    have e6 : (x.good.fr.map x.took.need).sum = (x.fr.map x.took.need).sum := rfl
    have hlt : x.took.mu < x.mu := by rw [hmu, hmu2]; omega
    have hge : x.took.ge = x.ge := by rw [g3]; rfl
    have hsq : x.took.sq = x.sq := by rw [g3]; rfl
    have hnet : x.took.net = x.net := by rw [g3]; rfl
    have hW : x.took.W = x.good.W ∧ x.took.L = x.good.L ∧ x.took.T = x.good.T ∧ x.took.G = x.good.G := by rw [g3]; exact ⟨rfl, rfl, rfl, rfl⟩
    refine ⟨⟨by rw [hfr]; exact h.fr, g1, by rw [hfr]; exact g2, fun p hp => ?_, by rw [hge, g3]; exact h.ep, by rw [hge]; exact h.g1, by rw [hge]; exact h.g2, by rw [g3]; exact hd, ?_, by rw [g3]; exact h.age.1, by rw [hW.1, hW.2.1, hW.2.2.1, hW.2.2.2]; exact hflow, fun _ => by rw [hfr, g3]; exact h.ln hk, fun hf => (by rw [hkn] at hf; cases hf), ?_⟩, hlt, hnet, hge, hfr⟩
    · rw [hnet] at hp
      have := (h.net p hp).mid
      unfold XPk0 at this ⊢
      rw [hge, hsq, hfr]
      exact this
    · rw [hsq, hfr]; omega
    · rw [hsq]; have := h.fl hd; have e : x.good.fu.length = x.fu.length := rfl; omega
end
end Go.Proofs.YtppkeophochgiaaGreatDoor
