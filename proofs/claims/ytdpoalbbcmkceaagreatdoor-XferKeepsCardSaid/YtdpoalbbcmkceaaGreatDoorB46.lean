/- Texts of one proof, one behind the other: XferLaws, XferLaw2, XferLaw3, XferFin, XferDo. -/
import Derived.Test.YtdpoalbbcmkceaaGreatDoorB43
import Derived.Test.YtdpoalbbcmkceaaGreatDoorB45
import Derived.Test.YtdpoalbbcmkceaaGreatDoorB25
import Derived.Test.YtdpoalbbcmkceaaGreatDoorB41
/- The plain laws of a transfer: what is under way, and what each deed keeps. No program is in sight. -/
namespace Go.Proofs.YtdpoalbbcmkceaaGreatDoor
open Go.RowKit
set_option linter.unusedVariables false

/-- what may be asked: all lines, or one file, of what is there -/
inductive XW
  | all
  | one (n o d : List UInt8)
def sgT (o : List UInt8) : List UInt8 := sText (blks (sizeN o.length) o) (sizeN o.length)
def opO (o d : List UInt8) : List POp := mkOps (blks (sizeN o.length) o) (sizeN o.length) d
def xrq (e q : Nat) : XW → PFr
  | .all => ⟨108, e, q, []⟩
  | .one n o d => ⟨103, e, q, XS.two n (sgT o)⟩
def xan (fr : List PF) (e q : Nat) : XW → PFr
  | .all => ⟨109, e, q, flText (fr.map PF.line)⟩
  | .one n o d => ⟨111, e, q, XS.two n (dtL (opO o d))⟩
def xfm (fr : List PF) (b : Bool) (e q : Nat) (u : XW) : PFr := if b then xan fr e q u else xrq e q u
structure Small (l : List PF) : Prop where
  wf : FWF l
  len : ∀ f ∈ l, f.d.length ≤ 200
def XW.ok (fr : List PF) : XW → Prop
  | .all => True
  | .one n o d => (⟨n, d⟩ : PF) ∈ fr ∧ o.length ≤ 200

/-! ### what is written is read -/
theorem opO_ok {o d : List UInt8} (ho : o.length ≤ 200) (hd : d.length ≤ 200) : OkOut (opO o d) d.length := by
  have hz := sizeN_is (o.length : Int)
  have hb := blks_few o (by omega)
  exact mkOps_ok _ _ _ (by omega) (by omega)
theorem opO_chk {o d : List UInt8} (ho : o.length ≤ 200) (hd : d.length ≤ 200) : (chkOps (opO o d)).1 = 0 :=
  (chkOps_ok _).2 ((opO_ok ho hd).chk (by omega))
theorem opO_short {o d : List UInt8} (ho : o.length ≤ 200) (hd : d.length ≤ 200) : ¬ 20000 < (oText (opO o d)).length ∧ (opsT (opO o d)).length ≤ 100000000 :=
  oText_short (by have := (opO_ok ho hd).1; omega) (by have := (opO_ok ho hd).2.1; omega)
theorem opO_dt {o d : List UInt8} (ho : o.length ≤ 200) (hd : d.length ≤ 200) : dtC (opO o d) = (0, -1) ∧ dtL (opO o d) = oText (opO o d) := dt_fine (opO_chk ho hd) (opO_short ho hd).1
theorem opO_read {o d : List UInt8} (ho : o.length ≤ 200) (hd : d.length ≤ 200) : readO (dtL (opO o d)) = (opO o d, 0) := by
  rw [(opO_dt ho hd).2]
  exact readO_text _ (opO_chk ho hd) (by have := (opO_ok ho hd).1; omega) (opO_short ho hd).1
theorem sgT_read {o : List UInt8} (ho : o.length ≤ 200) : readSg (sgT o) = (blks (sizeN o.length) o, sizeN o.length, 0) ∧ (chk (blks (sizeN o.length) o) (sizeN o.length)).1 = 0 := by
  have hz := sizeN_is (o.length : Int)
  have hc := blks_chk (sizeN o.length) o (by omega) (by omega) (by omega)
  exact ⟨read_text _ _ (by rw [hc]) (blks_S _ _), by rw [hc]⟩
theorem two_read {a b : List UInt8} (ha : a.length ≤ 20000) (hb : b.length ≤ 20000) : rtT (XS.two a b) 0 = a ∧ rtR (XS.two a b) 0 = num b.length ++ b ∧ rtC (XS.two a b) 0 = 0 ∧
    rtT (num b.length ++ b) 0 = b ∧ rtR (num b.length ++ b) 0 = [] ∧ rtC (num b.length ++ b) 0 = 0 := by
  obtain ⟨p1, p2, p3⟩ := t_text a (num b.length ++ b) ha
  obtain ⟨q1, q2, q3⟩ := t_text b [] hb
  rw [List.append_nil] at q1 q2 q3
  unfold XS.two
  exact ⟨(rt_zero _).1.trans p2, (rt_zero _).2.1.trans p3, (rt_zero _).2.2.trans p1, (rt_zero _).1.trans q2, (rt_zero _).2.1.trans q3, (rt_zero _).2.2.trans q1⟩
theorem two_len (a b : List UInt8) : (XS.two a b).length ≤ 14 + a.length + b.length := by
  have h1 := num_len a.length
  have h2 := num_len b.length
  unfold XS.two
  simp only [List.length_append]
  omega
theorem sgT_len {o : List UInt8} (ho : o.length ≤ 200) : (sgT o).length ≤ 2000 := by
  have hz := sizeN_is (o.length : Int)
  have hb := blks_few o (by omega)
  have := sText_len (blks (sizeN o.length) o) (sizeN o.length) (by omega) (by omega)
  unfold sgT
  omega
theorem lText_len {l : List PL} (h : LWF l) : (flText l).length ≤ 2000 := by
  have h1 := lnText_len l (fun x hx => ((nameB_iff _).1 (h.each x hx).1).2.1)
  have h2 := h.few
  have h3 := num_len l.length
  rw [flText_is, List.length_append]
  omega
theorem dtL_len {o d : List UInt8} (ho : o.length ≤ 200) (hd : d.length ≤ 200) : (dtL (opO o d)).length ≤ 19000 := by
  have h := opO_ok ho hd
  have := opsT_len (opO o d)
  have := num_len (opO o d).length
  have h1 := h.1
  have h2 := h.2.1
  rw [(opO_dt ho hd).2, oText_is, List.length_append]
  omega
theorem Small.name {l : List PF} (h : Small l) {f : PF} (hf : f ∈ l) : f.n.length ≤ 12 := ((nameB_iff _).1 (h.wf.each f hf).1).2.1
theorem frm_ok {fr : List PF} (h : Small fr) {b : Bool} {e q : Nat} {u : XW} (hu : u.ok fr) (he : e ≤ 2147483648) (hq : q < 65536) : frC (xfm fr b e q u) = 0 := by
  have hl := lText_len h.wf.lines
  cases u with
  | all =>
    cases b
    · exact frC_fine (by simp [xfm, xrq]) ⟨by simp [xfm, xrq]; omega, by simp [xfm, xrq]; omega, by simp [xfm, xrq]⟩
    · exact frC_fine (by simp [xfm, xan]) ⟨by simp [xfm, xan]; omega, by simp [xfm, xan]; omega, by simp only [xfm, xan, if_true]; omega⟩
  | one n o d =>
    obtain ⟨h1, h2⟩ := hu
    have hn := h.name h1
    have hd : d.length ≤ 200 := h.len _ h1
    have g1 := two_len n (sgT o)
    have g2 := two_len n (dtL (opO o d))
    have g3 := sgT_len h2
    have g4 := dtL_len h2 hd
    simp only [] at hn hd
    cases b
    · exact frC_fine (by simp [xfm, xrq]) ⟨by simp [xfm, xrq]; omega, by simp [xfm, xrq]; omega, by simp only [xfm, xrq, Bool.false_eq_true, if_false]; omega⟩
    · exact frC_fine (by simp [xfm, xan]) ⟨by simp [xfm, xan]; omega, by simp [xfm, xan]; omega, by simp only [xfm, xan, if_true]; omega⟩
/-- a bit of a frame's text is turned: it is none -/
theorem flip_none (f : PFr) (q : Nat) : decF (XS.flip (frT f) q) = (zfr, 10) := by
  have hl : 0 < (frT f).length := by rw [frT_is, List.length_append, lowL_len]; omega
  have h1 : q % (8 * (frT f).length) / 8 < (frT f).length := by
    have := Nat.mod_lt q (show 0 < 8 * (frT f).length by omega)
    omega
  unfold XS.flip
  rw [List.getElem?_eq_getElem h1]
  refine dec_flip f _ _ h1 ?_
  have h8 : q % (8 * (frT f).length) % 8 < 8 := Nat.mod_lt _ (by omega)
  generalize q % (8 * (frT f).length) % 8 = r at h8
  have : r = 0 ∨ r = 1 ∨ r = 2 ∨ r = 3 ∨ r = 4 ∨ r = 5 ∨ r = 6 ∨ r = 7 := by omega
  rcases this with rfl | rfl | rfl | rfl | rfl | rfl | rfl | rfl <;> decide

/-! ### what is wanted, and how much is still to be done -/
namespace XS
def plan (x : XS) : List PS := planL x.ln (x.tt.map PF.line)
def cur (x : XS) : XW :=
  if x.kn = false then .all
  else match x.plan.find? (fun s => s.k == kSend) with
    | some s => .one s.n (x.old s.n) (datOf x.fr s.n)
    | none => .all
def need (x : XS) (f : PF) : Nat := if f.line ∈ x.tt.map PF.line then 0 else if x.fu.contains f.n then 1 else 2
def mu (x : XS) : Nat := if x.kn = false then 2 * x.fr.length + 1 else (x.fr.map x.need).sum
end XS
theorem sum_le {l : List PF} {a b : PF → Nat} (h : ∀ f ∈ l, a f ≤ b f) : (l.map a).sum ≤ (l.map b).sum := by
  induction l with
  | nil => simp
  | cons f l ih =>
    have h1 := h f (by simp)
    have h2 := ih (fun g hg => h g (by simp [hg]))
    simp only [List.map_cons, List.sum_cons]
    omega
theorem sum_lt {l : List PF} {a b : PF → Nat} (h : ∀ f ∈ l, a f ≤ b f) {f : PF} (hf : f ∈ l) (hl : a f < b f) : (l.map a).sum < (l.map b).sum := by
  induction l with
  | nil => simp at hf
  | cons g l ih =>
    have h1 := h g (by simp)
    simp only [List.map_cons, List.sum_cons]
    rcases List.mem_cons.1 hf with rfl | hf
    · have h2 := sum_le (fun g hg => h g (List.mem_cons_of_mem _ hg))
      omega
    · have h2 := ih (fun g hg => h g (List.mem_cons_of_mem _ hg)) hf
      omega
theorem XS.need_le (x : XS) (f : PF) : x.need f ≤ 2 := by unfold XS.need; (repeat' split) <;> omega
theorem XS.needs_le (x : XS) : (x.fr.map x.need).sum ≤ 2 * x.fr.length := by
  have : ∀ l : List PF, (l.map x.need).sum ≤ 2 * l.length := by
    intro l
    induction l with
    | nil => simp
    | cons f l ih =>
      have := x.need_le f
      simp only [List.map_cons, List.sum_cons, List.length_cons]
      omega
  exact this _

/-- a packet under way -/
def XPk (x : XS) (p : List UInt8 × Bool) : Prop :=
  ∃ (u : XW) (e q : Nat) (b : Bool), u.ok x.fr ∧ e ≤ x.ge ∧ q < 65536 ∧ (e = x.ge → q < x.sq ∧ (q + 1 = x.sq → x.dn = false → u = x.cur)) ∧
    (p = (frT (xfm x.fr b e q u), false) ∨ p.2 = true ∧ ∃ k, p.1 = XS.flip (frT (xfm x.fr b e q u)) k)
structure XInv (t0 : List PF) (x : XS) : Prop where
  fr : Small x.fr
  tt : Small x.tt
  near : ∀ g ∈ x.tt, g ∈ t0 ∨ ∃ f ∈ x.fr, f.line = g.line ∧ (t0 = [] → f = g)
  net : ∀ p ∈ x.net, XPk x p
  ep : x.ep = x.ge
  g1 : 1 ≤ x.ge
  g2 : x.ge ≤ 2147483648
  sm : x.dn = false → x.sq + x.mu ≤ 2 * x.fr.length + 2
  s2 : x.sq ≤ 42
  age : x.age ≤ 64 ∧ (x.dn = false → (x.age : Int) < x.T)
  flow : FlowOk x.W x.L x.T x.G
  ln : x.kn = true → x.ln = x.fr.map PF.line
  l0 : x.kn = false → x.ln = []
  ask : x.dn = false → 1 ≤ x.sq ∧ x.ask = xrq x.ge (x.sq - 1) x.cur
  op : x.dn = false → x.kn = true → ∃ s, x.plan.find? (fun s => s.k == kSend) = some s
  done : x.dn = true → x.tt.map PF.line = x.fr.map PF.line ∧ x.ask = zfr
  fl : x.dn = false → x.fu.length + 1 ≤ x.sq
/-- a packet, ahead of the next question -/
def XPk0 (x : XS) (p : List UInt8 × Bool) : Prop :=
  ∃ (u : XW) (e q : Nat) (b : Bool), u.ok x.fr ∧ e ≤ x.ge ∧ q < 65536 ∧ (e = x.ge → q < x.sq) ∧
    (p = (frT (xfm x.fr b e q u), false) ∨ p.2 = true ∧ ∃ k, p.1 = XS.flip (frT (xfm x.fr b e q u)) k)
/-- ahead of the next question -/
structure XMid (t0 : List PF) (x : XS) : Prop where
  fr : Small x.fr
  tt : Small x.tt
  near : ∀ g ∈ x.tt, g ∈ t0 ∨ ∃ f ∈ x.fr, f.line = g.line ∧ (t0 = [] → f = g)
  net : ∀ p ∈ x.net, XPk0 x p
  ep : x.ep = x.ge
  g1 : 1 ≤ x.ge
  g2 : x.ge ≤ 2147483648
  dn : x.dn = false
  sm : x.sq + x.mu ≤ 2 * x.fr.length + 1
  age : x.age ≤ 64
  flow : FlowOk x.W x.L x.T x.G
  ln : x.kn = true → x.ln = x.fr.map PF.line
  l0 : x.kn = false → x.ln = []
  fl : x.fu.length ≤ x.sq
theorem XPk.mid {x : XS} {p : List UInt8 × Bool} (h : XPk x p) : XPk0 x p := by
  obtain ⟨u, e, q, b, h1, h2, h3, h4, h5⟩ := h
  exact ⟨u, e, q, b, h1, h2, h3, fun he => (h4 he).1, h5⟩
theorem Small.old {x : XS} (h : Small x.tt) (n : List UInt8) : (x.old n).length ≤ 200 := by
  unfold XS.old
  by_cases hf : x.fu.contains n = true
  · rw [if_pos hf]; simp
  · rw [if_neg hf]
    cases hg : fgetL x.tt n with
    | none => simp
    | some d => exact h.len _ (fgetL_some hg)
theorem Small.old4 {x : XS} (h : Small x.tt) (n : List UInt8) : (x.old n).length ≤ 4000 := by have := h.old (x := x) n; omega
theorem Small.getd {l : List PF} (h : Small l) {f : PF} (hf : f ∈ l) : datOf l f.n = f.d := by
  unfold datOf
  rw [fgetL_of h.wf.sorted hf]
  rfl
/-- what is wanted next is one of the source's, and not there -/
theorem send_of {x : XS} (hf : Small x.fr) (ht : Small x.tt) (hl : x.ln = x.fr.map PF.line) {s : PS} (hs : x.plan.find? (fun s => s.k == kSend) = some s) :
    ∃ f ∈ x.fr, f.n = s.n ∧ f.line ∉ x.tt.map PF.line ∧ s.k = kSend := by
  have P := planL_law hf.wf.lines.sorted ht.wf.lines.sorted
  have h1 := List.mem_of_find?_eq_some hs
  have h2 : s.k = kSend := by simpa using List.find?_some hs
  unfold XS.plan at h1
  rw [hl] at h1
  rcases P.of s h1 with ⟨_, y, hy, e, hn⟩ | ⟨h, _⟩ | ⟨h, _⟩
  · obtain ⟨f, hf, rfl⟩ := List.mem_map.1 hy
    exact ⟨f, hf, e, hn, h2⟩
  · rw [h] at h2; exact absurd h2 (by decide)
  · rw [h] at h2; exact absurd h2 (by decide)
theorem cur_one {x : XS} (hk : x.kn = true) {s : PS} (hs : x.plan.find? (fun s => s.k == kSend) = some s) : x.cur = .one s.n (x.old s.n) (datOf x.fr s.n) := by
  unfold XS.cur
  rw [if_neg (by simp [hk]), hs]
theorem cur_all {x : XS} (hk : x.kn = false) : x.cur = .all := by unfold XS.cur; rw [if_pos hk]
theorem cur_ok {x : XS} (hf : Small x.fr) (ht : Small x.tt) (hl : x.kn = true → x.ln = x.fr.map PF.line) : x.cur.ok x.fr := by
  cases hk : x.kn with
  | false => rw [cur_all hk]; exact trivial
  | true =>
    cases hs : x.plan.find? (fun s => s.k == kSend) with
    | none =>
      unfold XS.cur
      rw [if_neg (by simp [hk]), hs]
      exact trivial
    | some s =>
      obtain ⟨f, hf1, e, _⟩ := send_of hf ht (hl hk) hs
      rw [cur_one hk hs]
      refine ⟨?_, ht.old _⟩
      rw [← e, hf.getd hf1]
      exact hf1
/-- a frame that is asked or answered goes into the net -/
theorem put_frm {x : XS} (hf : Small x.fr) {b : Bool} {e q : Nat} {u : XW} (hu : u.ok x.fr) (he : e ≤ 2147483648) (hq : q < 65536) : x.put (xfm x.fr b e q u) = { x with net := x.net ++ [(frT (xfm x.fr b e q u), false)] } := XS.put_yes (frm_ok hf hu he hq)
/-- the destination asks -/
theorem asks_inv {t0 : List PF} {x : XS} (h : XMid t0 x) (hop : x.kn = true → ∃ s, x.plan.find? (fun s => s.k == kSend) = some s) :
    x.asks (xrq x.ge x.sq x.cur).k (xrq x.ge x.sq x.cur).d = { x with net := x.net ++ [(frT (xfm x.fr false x.ge x.sq x.cur), false)], ask := xrq x.ge x.sq x.cur, sq := x.sq + 1, age := 0 } ∧
    XInv t0 { x with net := x.net ++ [(frT (xfm x.fr false x.ge x.sq x.cur), false)], ask := xrq x.ge x.sq x.cur, sq := x.sq + 1, age := 0 } := by
  have hfew := h.fr.wf.few
  have hsm := h.sm
  have hok := cur_ok h.fr h.tt h.ln
  have hT := h.flow.2.2.2.2.1
  constructor
  · have e1 : (⟨(xrq x.ge x.sq x.cur).k, x.ep, x.sq, (xrq x.ge x.sq x.cur).d⟩ : PFr) = xfm x.fr false x.ge x.sq x.cur := by
      rw [h.ep]
      cases x.cur <;> rfl
    unfold XS.asks
    rw [e1]
    refine (put_frm (x := { x with ask := _, sq := _, age := 0 }) h.fr hok h.g2 (by omega)).trans ?_
    have e2 : (x.sq + 1) % 65536 = x.sq + 1 := by omega
    rw [e2]
    rfl
  · refine ⟨h.fr, h.tt, h.near, ?_, h.ep, h.g1, h.g2, fun _ => by show x.sq + 1 + x.mu ≤ 2 * x.fr.length + 2; omega, by show x.sq + 1 ≤ 42; omega, ⟨by show 0 ≤ 64; omega, fun _ => by show ((0 : Nat) : Int) < x.T; omega⟩, h.flow, h.ln, h.l0, fun _ => ⟨by show 1 ≤ x.sq + 1; omega, ?_⟩, fun _ => hop, fun hd => ?_, fun _ => by show x.fu.length + 1 ≤ x.sq + 1; have := h.fl; omega⟩
    · intro p hp
      rcases List.mem_append.1 hp with hp | hp
      · obtain ⟨u, e, q, b, h1, h2, h3, h4, h5⟩ := h.net p hp
        exact ⟨u, e, q, b, h1, h2, h3, fun he => ⟨by have := h4 he; show q < x.sq + 1; omega, fun hq => by have := h4 he; have hq : q + 1 = x.sq + 1 := hq; omega⟩, h5⟩
      · have : p = (frT (xfm x.fr false x.ge x.sq x.cur), false) := by simpa using hp
        exact ⟨x.cur, x.ge, x.sq, false, hok, Nat.le_refl _, by omega, fun _ => ⟨by show x.sq < x.sq + 1; omega, fun _ _ => rfl⟩, .inl this⟩
    · show xrq x.ge x.sq x.cur = xrq x.ge (x.sq + 1 - 1) x.cur
      rw [Nat.add_sub_cancel]
    · have hd : x.dn = true := hd
      rw [h.dn] at hd
      cases hd
/-- what the destination does next -/
theorem next_inv {t0 : List PF} {x : XS} (h : XMid t0 x) : XInv t0 x.next ∧ (x.next.dn = true ∨ x.next.mu = x.mu) ∧ x.next.fr = x.fr ∧ x.next.ge = x.ge ∧ x.next.net.length ≤ x.net.length + 1 ∧ x.net.length ≤ x.next.net.length := by
  cases hk : x.kn with
  | false =>
    have e : x.next = x.asks (xrq x.ge x.sq x.cur).k (xrq x.ge x.sq x.cur).d := by rw [XS.next_ask hk, cur_all hk]; rfl
    obtain ⟨h1, h2⟩ := asks_inv h (fun e => by rw [hk] at e; cases e)
    rw [e, h1]
    exact ⟨h2, .inr rfl, rfl, rfl, by simp, by simp⟩
  | true =>
    cases hs : x.plan.find? (fun s => s.k == kSend) with
    | some s =>
      have e : x.next = x.asks (xrq x.ge x.sq x.cur).k (xrq x.ge x.sq x.cur).d := by
        unfold XS.next
        rw [if_neg (by simp [hk])]
        unfold XS.plan at hs
        rw [hs]
        rw [cur_one hk (by unfold XS.plan; exact hs)]
        rfl
      obtain ⟨h1, h2⟩ := asks_inv h (fun _ => ⟨s, hs⟩)
      rw [e, h1]
      exact ⟨h2, .inr rfl, rfl, rfl, by simp, by simp⟩
    | none =>
      have e : x.next = { x with tt := dropsTo x.plan x.tt, dn := true, ask := zfr } := by
        unfold XS.next
        rw [if_neg (by simp [hk])]
        unfold XS.plan at hs
        rw [hs]
        rfl
      have hsub : ∀ f ∈ dropsTo x.plan x.tt, f ∈ x.tt := fun f hf => ((dropsTo_mem _ _ _).1 hf).1
      have hno : ∀ s ∈ x.plan, s.k ≠ kSend := by
        intro s hs'
        have := List.find?_eq_none.1 hs s hs'
        simpa using this
      have hput : putsTo x.fr x.plan (dropsTo x.plan x.tt) = dropsTo x.plan x.tt := by
        have : ∀ (q : List PS) (l : List PF), (∀ s ∈ q, s.k ≠ kSend) → putsTo x.fr q l = l := by
          intro q
          induction q with
          | nil => intro l _; rfl
          | cons s q ih =>
            intro l hq
            unfold putsTo
            rw [List.foldl_cons, if_neg (hq s (by simp))]
            exact ih l (fun s hs => hq s (by simp [hs]))
        exact this _ _ hno
      have hkeep := keep_law h.fr.wf h.tt.wf
      rw [← h.ln hk] at hkeep
      have hpl : planL x.ln (x.tt.map PF.line) = x.plan := rfl
      rw [hpl, hput] at hkeep
      have hfew := h.fr.wf.few
      have hsm := h.sm
      rw [e]
      refine ⟨⟨h.fr, ⟨h.tt.wf.drops _, fun f hf => h.tt.len f (hsub f hf)⟩, fun g hg => h.near g (hsub g hg), ?_, h.ep, h.g1, h.g2, fun hd => (by cases hd), by show x.sq ≤ 42; omega, ⟨h.age, fun hd => (by cases hd)⟩, h.flow, h.ln, h.l0, fun hd => (by cases hd), fun hd => (by cases hd), fun _ => ⟨by rw [h.ln hk] at hkeep; exact hkeep, rfl⟩, fun hd => (by cases hd)⟩, .inl rfl, rfl, rfl, by simp, by simp⟩
      intro p hp
      obtain ⟨u, e, q, b, h1, h2, h3, h4, h5⟩ := h.net p hp
      exact ⟨u, e, q, b, h1, h2, h3, fun he => ⟨h4 he, fun _ hd => (by cases hd)⟩, h5⟩
end Go.Proofs.YtdpoalbbcmkceaaGreatDoor
/- The plain laws of a transfer, second part: what comes, and each deed keeps what holds; every answer brings it nearer to its end. No program is in sight. -/
namespace Go.Proofs.YtdpoalbbcmkceaaGreatDoor
open Go.RowKit
set_option linter.unusedVariables false

theorem line_n {f g : PF} (h : f.line = g.line) : f.n = g.n := congrArg PL.n h
theorem line_mk {n v : List UInt8} {f : PF} (hn : f.n = n) (h1 : v.length = f.d.length) (h2 : csum v = csum f.d) : (⟨n, v⟩ : PF).line = f.line := by
  unfold PF.line
  simp only [hn, h1, h2]
theorem find_line {fr : List PF} (hf : FWF fr) {f : PF} (h : f ∈ fr) : (fr.map PF.line).find? (fun y => y.n == f.n) = some f.line := by
  cases e : (fr.map PF.line).find? (fun y => y.n == f.n) with
  | none =>
    have := List.find?_eq_none.1 e f.line (List.mem_map_of_mem h)
    exact absurd (show (f.n == f.n) = true by simp) this
  | some y =>
    have h1 := List.mem_of_find?_eq_some e
    have h2 : y.n = f.n := by simpa using List.find?_some e
    rw [Srt.inj hf.lines.sorted h1 (List.mem_map_of_mem h) h2]
theorem wh_cases (old : List UInt8) (size : Int) (l : List POp) (n c : Int) :
    (whC old size l n c).1 ≠ 0 ∨ (whC old size l n c).1 = 0 ∧ ((whL old size l n c).length : Int) = n ∧ (csum (whL old size l n c) : Int) = c := by
  by_cases h : (whC old size l n c).1 = 0
  · refine .inr ⟨h, ?_⟩
    by_cases h1 : (appl old size l).1.1 = 0
    · by_cases h2 : ((appl old size l).2.length : Int) = n ∧ (csum (appl old size l).2 : Int) = c
      · rw [(wh_fine h1 h2).2]; exact h2
      · rw [(wh_sum h1 h2).1] at h; cases h
    · rw [(wh_bad h1).1] at h; exact absurd h h1
  · exact .inl h
theorem opO_nil {d : List UInt8} (hd : d.length ≤ 200) : (whC [] (sizeN (([] : List UInt8).length : Int)) (opO [] d) (d.length : Nat) (csum d : Nat)).1 = 0 ∧ whL [] (sizeN (([] : List UInt8).length : Int)) (opO [] d) (d.length : Nat) (csum d : Nat) = d := by
  have h := whole_nil d (sizeN (([] : List UInt8).length : Int)) (by have := sizeN_is (([] : List UInt8).length : Int); omega) (by have := sizeN_is (([] : List UInt8).length : Int); omega) (by omega)
  have e : opO [] d = mkOps [] (sizeN (([] : List UInt8).length : Int)) d := by
    unfold opO
    have : blks (sizeN (([] : List UInt8).length : Int)) [] = [] := by
      apply List.eq_nil_of_length_eq_zero
      rw [blks_len]
      have := sizeN_is (([] : List UInt8).length : Int)
      unfold cntOf
      exact Nat.div_eq_of_lt (by simp only [List.length_nil] at this ⊢; omega)
    rw [this]
  rw [e]
  have hw := wh_fine (old := []) (size := (sizeN (([] : List UInt8).length : Int) : Nat)) (l := mkOps [] (sizeN (([] : List UInt8).length : Int)) d) (n := (d.length : Nat)) (c := (csum d : Nat)) (by rw [h]) (by rw [h]; exact ⟨rfl, rfl⟩)
  rw [hw.1, hw.2, h]
  exact ⟨rfl, rfl⟩
section
variable {t0 : List PF} {x : XS}
theorem room_mem {g : PF} (h : g ∈ x.room) : g ∈ x.tt := by
  unfold XS.room at h
  by_cases h2 : 20 ≤ x.tt.length
  · rw [if_pos h2] at h; exact (List.mem_filter.1 h).1
  · rw [if_neg h2] at h; exact h
theorem room_has {g : PF} (hg : g ∈ x.tt) (hl : ∃ y ∈ x.ln, y.n = g.n) : g ∈ x.room := by
  unfold XS.room
  by_cases h2 : 20 ≤ x.tt.length
  · rw [if_pos h2]
    refine List.mem_filter.2 ⟨hg, ?_⟩
    obtain ⟨y, hy, e⟩ := hl
    exact List.any_eq_true.2 ⟨y, hy, by simp [e]⟩
  · rw [if_neg h2]; exact hg
theorem room_wf (h : FWF x.tt) : FWF x.room := by
  unfold XS.room
  by_cases h2 : 20 ≤ x.tt.length
  · rw [if_pos h2]; exact h.filter _
  · rw [if_neg h2]; exact h
theorem room_put (ht : FWF x.tt) (hl : LWF x.ln) {n v : List UInt8} (hn : ∃ y ∈ x.ln, y.n = n) (hv : v.length ≤ 4000) : FWF (fputL x.room n v) ∧ (putF x.room n v).1 = 0 := by
  have hr := room_wf ht
  have hnb : nameB n = true := by obtain ⟨y, hy, rfl⟩ := hn; exact (hl.each y hy).1
  have hlen : (fputL x.room n v).length ≤ 20 := by
    by_cases h2 : 20 ≤ x.tt.length
    · have hsub : ∀ m ∈ (fputL x.room n v).map PF.n, m ∈ x.ln.map PL.n := by
        intro m hm
        obtain ⟨g, hg, rfl⟩ := List.mem_map.1 hm
        rcases mem_fputL _ _ _ _ hg with rfl | hg
        · obtain ⟨y, hy, e⟩ := hn
          exact List.mem_map.2 ⟨y, hy, e⟩
        · unfold XS.room at hg
          rw [if_pos h2] at hg
          obtain ⟨y, hy, e⟩ := List.any_eq_true.1 (List.mem_filter.1 hg).2
          exact List.mem_map.2 ⟨y, hy, by simpa using e⟩
      have := nodup_sub (names_nodup (fputL_sorted n v hr.sorted)) hsub
      have hf := hl.few
      simp only [List.length_map] at this
      omega
    · have := fputL_len x.room n v
      have hroom : x.room = x.tt := by unfold XS.room; rw [if_neg h2]
      rw [hroom] at this ⊢
      omega
  have hp := hr.put hnb hv hlen
  exact ⟨hp, by rw [putF_ok ((flFault_wf _).2 hr)]; exact (flFault_wf _).2 hp⟩
theorem given_is {z : XS} {n o d : List UInt8} (hn : n.length ≤ 12) (ho : o.length ≤ 200) (hd : d.length ≤ 200) {y : PL} (hy : z.ln.find? (fun y => y.n == n) = some y) : z.given (XS.two n (dtL (opO o d))) = z.gave n (opO o d) y := by
  obtain ⟨p1, p2, p3, q1, q2, q3⟩ := two_read (a := n) (b := dtL (opO o d)) (by omega) (by have := dtL_len ho hd; omega)
  unfold XS.given
  rw [p1, p2, p3, q1, q2, q3, rEnd_nil, opO_read ho hd]
  simp [hy]
/-- a file is given: it is right, or it is asked for anew, as a whole -/
theorem gave_law {z : XS} (hfr : Small z.fr) (htt : Small z.tt) (hnear : ∀ g ∈ z.tt, g ∈ t0 ∨ ∃ f ∈ z.fr, f.line = g.line ∧ (t0 = [] → f = g)) (hln : z.ln = z.fr.map PF.line) {f0 : PF} (hf0 : f0 ∈ z.fr) (hno : f0.line ∉ z.tt.map PF.line) :
    Small (z.gave f0.n (opO (z.old f0.n) f0.d) f0.line).tt ∧ (∀ g ∈ (z.gave f0.n (opO (z.old f0.n) f0.d) f0.line).tt, g ∈ t0 ∨ ∃ f ∈ z.fr, f.line = g.line ∧ (t0 = [] → f = g)) ∧
    (z.gave f0.n (opO (z.old f0.n) f0.d) f0.line = { z with fu := (z.gave f0.n (opO (z.old f0.n) f0.d) f0.line).fu, tt := (z.gave f0.n (opO (z.old f0.n) f0.d) f0.line).tt }) ∧
    (z.fr.map (z.gave f0.n (opO (z.old f0.n) f0.d) f0.line).need).sum < (z.fr.map z.need).sum ∧ (z.gave f0.n (opO (z.old f0.n) f0.d) f0.line).fu.length ≤ z.fu.length + 1 := by
  have hd := hfr.len _ hf0
  have ho := htt.old (x := z) f0.n
  rcases wh_cases (z.old f0.n) (sizeN (z.old f0.n).length) (opO (z.old f0.n) f0.d) f0.line.N f0.line.S with hw | ⟨hw, v1, v2⟩
  · have e : z.gave f0.n (opO (z.old f0.n) f0.d) f0.line = { z with fu := f0.n :: z.fu } := by
      unfold XS.gave
      rw [if_pos hw]
    have hnf : z.fu.contains f0.n = false := by
      cases hc : z.fu.contains f0.n with
      | false => rfl
      | true =>
        exfalso
        have hold : z.old f0.n = [] := by unfold XS.old; rw [if_pos hc]
        rw [hold] at hw
        exact hw (opO_nil hd).1
    rw [e]
    refine ⟨htt, hnear, rfl, sum_lt (fun g hg => ?_) hf0 ?_, Nat.le_refl _⟩
    · show (if g.line ∈ z.tt.map PF.line then 0 else if (f0.n :: z.fu).contains g.n then 1 else 2) ≤ (if g.line ∈ z.tt.map PF.line then 0 else if z.fu.contains g.n then 1 else 2)
      by_cases h1 : g.line ∈ z.tt.map PF.line
      · rw [if_pos h1, if_pos h1]; omega
      · rw [if_neg h1, if_neg h1]
        by_cases h2 : z.fu.contains g.n = true
        · rw [if_pos h2, if_pos (by rw [List.contains_cons, h2]; simp)]; omega
        · rw [if_neg h2]
          split <;> omega
    · show (if f0.line ∈ z.tt.map PF.line then 0 else if (f0.n :: z.fu).contains f0.n then 1 else 2) < (if f0.line ∈ z.tt.map PF.line then 0 else if z.fu.contains f0.n then 1 else 2)
      rw [if_neg hno, if_neg hno, if_pos (by simp), if_neg (by rw [hnf]; simp)]
      omega
  · have hln' : LWF z.ln := by rw [hln]; exact hfr.wf.lines
    have hy : ∃ y ∈ z.ln, y.n = f0.n := ⟨f0.line, by rw [hln]; exact List.mem_map_of_mem hf0, rfl⟩
    obtain ⟨v, hv⟩ : ∃ v, whL (z.old f0.n) (sizeN (z.old f0.n).length) (opO (z.old f0.n) f0.d) f0.line.N f0.line.S = v := ⟨_, rfl⟩
    rw [hv] at v1 v2
    have l1 : v.length = f0.d.length := by
      have : ((v.length : Nat) : Int) = (f0.d.length : Nat) := v1
      omega
    have l2 : csum v = csum f0.d := by
      have : ((csum v : Nat) : Int) = (csum f0.d : Nat) := v2
      omega
    obtain ⟨hp1, hp2⟩ := room_put htt.wf hln' hy (v := v) (by omega)
    have e : z.gave f0.n (opO (z.old f0.n) f0.d) f0.line = { z with tt := fputL z.room f0.n v } := by
      unfold XS.gave
      rw [if_neg (by rw [hw]; simp), hv, if_pos hp2]
    have hlv : (⟨f0.n, v⟩ : PF).line = f0.line := line_mk rfl l1 l2
    have hmem : ∀ g ∈ fputL z.room f0.n v, g = ⟨f0.n, v⟩ ∨ g ∈ z.tt := fun g hg => by
      rcases mem_fputL _ _ _ _ hg with h | h
      · exact .inl h
      · exact .inr (room_mem h)
    rw [e]
    refine ⟨⟨hp1, fun g hg => ?_⟩, fun g hg => ?_, rfl, sum_lt (fun g hg => ?_) hf0 ?_, Nat.le_succ _⟩
    · rcases hmem g hg with rfl | h
      · show v.length ≤ 200; omega
      · exact htt.len g h
    · rcases hmem g hg with rfl | h
      · refine .inr ⟨f0, hf0, hlv.symm, fun h0 => ?_⟩
        have hold : z.old f0.n = [] := by
          have hg : fgetL z.tt f0.n = none := by
            cases hg : fgetL z.tt f0.n with
            | none => rfl
            | some d0 =>
              exfalso
              have hm := fgetL_some hg
              rcases hnear _ hm with h1 | ⟨f, hf, h1, h2⟩
              · rw [h0] at h1; cases h1
              · have h3 := h2 h0
                have h4 : f = f0 := Sr.inj hfr.wf.sorted hf hf0 (by rw [h3])
                rw [← h4] at hno
                exact hno (List.mem_map.2 ⟨_, hm, h1.symm⟩)
          unfold XS.old
          rw [hg]
          split <;> rfl
        rw [hold] at hv
        have := (opO_nil hd).2.symm.trans hv
        rw [← this]
      · exact hnear g h
    · show (if g.line ∈ (fputL z.room f0.n v).map PF.line then 0 else if z.fu.contains g.n then 1 else 2) ≤ (if g.line ∈ z.tt.map PF.line then 0 else if z.fu.contains g.n then 1 else 2)
      by_cases h0 : g.n = f0.n
      · have : g = f0 := Sr.inj hfr.wf.sorted hg hf0 h0
        subst this
        have : g.line ∈ (fputL z.room g.n v).map PF.line := List.mem_map.2 ⟨_, fputL_mem _ _ _, hlv⟩
        rw [if_pos this]; omega
      · by_cases h1 : g.line ∈ z.tt.map PF.line
        · have : g.line ∈ (fputL z.room f0.n v).map PF.line := by
            obtain ⟨c, hc, ec⟩ := List.mem_map.1 h1
            have hcn := line_n ec
            refine List.mem_map.2 ⟨c, fputL_other (room_has hc ⟨g.line, by rw [hln]; exact List.mem_map_of_mem hg, hcn.symm⟩) (by rw [hcn]; exact h0), ec⟩
          rw [if_pos this]; omega
        · rw [if_neg h1]
          by_cases h3 : g.line ∈ (fputL z.room f0.n v).map PF.line
          · rw [if_pos h3]; omega
          · rw [if_neg h3]; omega
    · have : f0.line ∈ (fputL z.room f0.n v).map PF.line := List.mem_map.2 ⟨_, fputL_mem _ _ _, hlv⟩
      show (if f0.line ∈ (fputL z.room f0.n v).map PF.line then 0 else if z.fu.contains f0.n then 1 else 2) < (if f0.line ∈ z.tt.map PF.line then 0 else if z.fu.contains f0.n then 1 else 2)
      rw [if_neg hno, if_pos this]
      split <;> omega
/-- what the destination makes of the answer to what it asked -/
def XS.took (x : XS) : XS := if (xan x.fr x.ge (x.sq - 1) x.cur).k = 109 then XS.listed (xan x.fr x.ge (x.sq - 1) x.cur).d x.good else XS.given (xan x.fr x.ge (x.sq - 1) x.cur).d x.good
theorem took_all (h : XInv t0 x) (hk : x.kn = false) : x.took = { x.good with ln := x.fr.map PF.line, kn := true } := by
  unfold XS.took
  rw [cur_all hk]
  show XS.listed (flText (x.fr.map PF.line)) x.good = _
  unfold XS.listed
  rw [readLn_text _ h.fr.wf.lines (lines_sum _)]
  rfl
theorem took_one (h : XInv t0 x) (hd : x.dn = false) (hk : x.kn = true) : ∃ f0 ∈ x.fr, f0.line ∉ x.tt.map PF.line ∧ x.cur = .one f0.n (x.old f0.n) f0.d ∧ x.took = x.good.gave f0.n (opO (x.old f0.n) f0.d) f0.line := by
  obtain ⟨s, hs⟩ := h.op hd hk
  obtain ⟨f0, hf0, hn, hno, _⟩ := send_of h.fr h.tt (h.ln hk) hs
  have hc := cur_one hk hs
  rw [← hn, h.fr.getd hf0] at hc
  refine ⟨f0, hf0, hno, hc, ?_⟩
  unfold XS.took
  rw [hc]
  show XS.given (XS.two f0.n (dtL (opO (x.old f0.n) f0.d))) x.good = _
  exact given_is (h.fr.name hf0) (h.tt.old _) (h.fr.len _ hf0) (by show x.ln.find? _ = _; rw [h.ln hk]; exact find_line h.fr.wf hf0)
/-- the answer to what was asked comes, and is taken -/
theorem taken_inv (h : XInv t0 x) (hd : x.dn = false) : XMid t0 x.took ∧ x.took.mu < x.mu ∧ x.took.net = x.net ∧ x.took.ge = x.ge ∧ x.took.fr = x.fr := by
  have hsm := h.sm hd
  have hfew := h.fr.wf.few
  have hflow := good_ok h.flow
  cases hk : x.kn with
  | false =>
    have hmu : x.mu = 2 * x.fr.length + 1 := by unfold XS.mu; rw [if_pos hk]
    rw [took_all h hk]
    have hlt : XS.mu { x.good with ln := x.fr.map PF.line, kn := true } < x.mu := by
      rw [hmu]
      have := XS.needs_le { x.good with ln := x.fr.map PF.line, kn := true }
      unfold XS.mu
      rw [if_neg (by simp)]
      have e : (XS.fr { x.good with ln := x.fr.map PF.line, kn := true }).length = x.fr.length := rfl
      omega
    refine ⟨⟨h.fr, h.tt, h.near, fun p hp => (h.net p hp).mid, h.ep, h.g1, h.g2, hd, ?_, h.age.1, hflow, fun _ => rfl, fun hk => (by cases hk), by show x.fu.length ≤ x.sq; have := h.fl hd; omega⟩, hlt, rfl, rfl, rfl⟩
    show x.sq + _ ≤ 2 * x.fr.length + 1
    omega
  | true =>
    obtain ⟨f0, hf0, hno, hc, ht⟩ := took_one h hd hk
    obtain ⟨g1, g2, g3, g4, g5⟩ := gave_law (t0 := t0) (z := x.good) h.fr h.tt h.near (h.ln hk) hf0 hno
    have hold : x.good.old f0.n = x.old f0.n := rfl
    rw [hold, ← ht] at g1 g2 g3 g4 g5
    have hmu : x.mu = (x.fr.map x.need).sum := by unfold XS.mu; rw [if_neg (by simp [hk])]
    have hkn : x.took.kn = true := by rw [g3]; exact hk
    have hfr : x.took.fr = x.fr := by rw [g3]; rfl
    have hmu2 : x.took.mu = (x.fr.map x.took.need).sum := by unfold XS.mu; rw [if_neg (by simp [hkn]), hfr]
    have e5 : (x.good.fr.map x.good.need).sum = (x.fr.map x.need).sum := rfl
    have e6 : (x.good.fr.map x.took.need).sum = (x.fr.map x.took.need).sum := rfl
    have hlt : x.took.mu < x.mu := by rw [hmu, hmu2]; omega
    have hge : x.took.ge = x.ge := by rw [g3]; rfl
    have hsq : x.took.sq = x.sq := by rw [g3]; rfl
    have hnet : x.took.net = x.net := by rw [g3]; rfl
    have hW : x.took.W = x.good.W ∧ x.took.L = x.good.L ∧ x.took.T = x.good.T ∧ x.took.G = x.good.G := by rw [g3]; exact ⟨rfl, rfl, rfl, rfl⟩
    refine ⟨⟨by rw [hfr]; exact h.fr, g1, by rw [hfr]; exact g2, fun p hp => ?_, by rw [hge, g3]; exact h.ep, by rw [hge]; exact h.g1, by rw [hge]; exact h.g2, by rw [g3]; exact hd, ?_, by rw [g3]; exact h.age.1, by rw [hW.1, hW.2.1, hW.2.2.1, hW.2.2.2]; exact hflow, fun _ => by rw [hfr, g3]; exact h.ln hk, fun hf => (by rw [hkn] at hf; cases hf), ?_⟩, hlt, hnet, hge, hfr⟩
    · rw [hnet] at hp
      have := (h.net p hp).mid
      unfold XPk0 at this ⊢
      rw [hge, hsq, hfr]
      exact this
    · rw [hsq, hfr]; omega
    · rw [hsq]; have := h.fl hd; have e : x.good.fu.length = x.fu.length := rfl; omega
end
end Go.Proofs.YtdpoalbbcmkceaaGreatDoor
/- The plain laws of a transfer, third part: what comes, each deed, and the end. No program is in sight. -/
namespace Go.Proofs.YtdpoalbbcmkceaaGreatDoor
open Go.RowKit
set_option linter.unusedVariables false
section
variable {t0 : List PF} {x : XS}
theorem net_inv (h : XInv t0 x) {l : List (List UInt8 × Bool)} (hn : ∀ p ∈ l, XPk x p) : XInv t0 { x with net := l } :=
  ⟨h.fr, h.tt, h.near, hn, h.ep, h.g1, h.g2, h.sm, h.s2, h.age, h.flow, h.ln, h.l0, h.ask, h.op, h.done, h.fl⟩
theorem xan_e (fr : List PF) (e q : Nat) (u : XW) : (xan fr e q u).e = e := by cases u <;> rfl
theorem xan_q (fr : List PF) (e q : Nat) (u : XW) : (xan fr e q u).q = q := by cases u <;> rfl
theorem xrq_e (e q : Nat) (u : XW) : (xrq e q u).e = e := by cases u <;> rfl
theorem xrq_q (e q : Nat) (u : XW) : (xrq e q u).q = q := by cases u <;> rfl
theorem xrq_k (e q : Nat) (u : XW) : (xrq e q u).k ≠ 0 := by cases u <;> simp [xrq]
theorem ansG_is (hf : Small x.fr) {f : PFr} {n o d : List UInt8} (hfd : f.d = XS.two n (sgT o)) (h1 : (⟨n, d⟩ : PF) ∈ x.fr) (h2 : o.length ≤ 200) : x.ansG f = x.put ⟨111, f.e, f.q, XS.two n (dtL (opO o d))⟩ := by
  have hn : n.length ≤ 12 := hf.name h1
  have hd : d.length ≤ 200 := hf.len _ h1
  obtain ⟨p1, p2, p3, q1, q2, q3⟩ := two_read (a := n) (b := sgT o) (by omega) (by have := sgT_len h2; omega)
  have hg : fgetL x.fr n = some d := fgetL_of hf.wf.sorted h1
  have hs := (sgT_read h2).1
  have hdt := (opO_dt h2 hd).1
  unfold XS.ansG
  rw [hfd, p1, p2, p3, q1, q2, q3, rEnd_nil, hs, hg]
  simp only [ne_eq, not_true_eq_false, if_false]
  have e1 : mkOps (blks (sizeN o.length) o) (sizeN o.length) d = opO o d := rfl
  rw [e1, hdt]
  rfl
/-- the source answers -/
theorem answer_is (hf : Small x.fr) {u : XW} {e q : Nat} (hu : u.ok x.fr) : x.answer (xrq e q u) = x.put (xan x.fr e q u) := by
  cases u with
  | all => rfl
  | one n o d =>
    obtain ⟨h1, h2⟩ := hu
    have hk : ¬ (xrq e q (.one n o d)).k = 108 := by show ¬ (103 : UInt8) = 108; decide
    unfold XS.answer
    rw [if_neg hk]
    exact ansG_is hf rfl h1 h2
theorem answered_no {f : PFr} (h : x.dn = true ∨ x.ask.k = 0 ∨ f.q ≠ x.ask.q ∨ x.ge = 0 ∨ f.e ≠ x.ge) : x.answered f = x := by unfold XS.answered; rw [if_pos h]
/-- a frame that is no answer to what was asked, or one that is -/
theorem answered_is (h : XInv t0 x) {u : XW} {e q : Nat} (hr : e = x.ge → q < x.sq ∧ (q + 1 = x.sq → x.dn = false → u = x.cur)) :
    ((x.dn = true ∨ x.ask.k = 0 ∨ (xan x.fr e q u).q ≠ x.ask.q ∨ x.ge = 0 ∨ (xan x.fr e q u).e ≠ x.ge) ∧ x.answered (xan x.fr e q u) = x) ∨
    (x.dn = false ∧ x.ask.k ≠ 0 ∧ (xan x.fr e q u).q = x.ask.q ∧ x.ge ≠ 0 ∧ (xan x.fr e q u).e = x.ge ∧ e = x.ge ∧ q = x.sq - 1 ∧ u = x.cur ∧ x.answered (xan x.fr e q u) = x.took.next) := by
  by_cases hc : x.dn = true ∨ x.ask.k = 0 ∨ (xan x.fr e q u).q ≠ x.ask.q ∨ x.ge = 0 ∨ (xan x.fr e q u).e ≠ x.ge
  · exact .inl ⟨hc, answered_no hc⟩
  · have hc' := hc
    simp only [not_or] at hc
    obtain ⟨h1, h2, h3, h4, h5⟩ := hc
    have hd : x.dn = false := by simpa using h1
    have h3 : (xan x.fr e q u).q = x.ask.q := Classical.byContradiction h3
    have h5 : (xan x.fr e q u).e = x.ge := Classical.byContradiction h5
    obtain ⟨a1, a2⟩ := h.ask hd
    have e1 : e = x.ge := by rw [xan_e] at h5; omega
    have q1 : q = x.sq - 1 := by
      rw [a2, xan_q, xrq_q] at h3
      omega
    have hu := (hr e1).2 (by omega) hd
    refine .inr ⟨hd, h2, h3, h4, h5, e1, q1, hu, ?_⟩
    unfold XS.answered
    rw [if_neg hc', e1, q1, hu]
    rfl
theorem erase_inv (h : XInv t0 x) (k : Nat) : XInv t0 { x with net := x.net.eraseIdx k } := net_inv h (fun p hp => h.net p (List.mem_of_mem_eraseIdx hp))
theorem rq_kind (e q : Nat) (u : XW) : (xrq e q u).k = 108 ∨ (xrq e q u).k = 103 := by cases u <;> simp [xrq]
theorem an_kind (fr : List PF) (e q : Nat) (u : XW) : ¬ ((xan fr e q u).k = 108 ∨ (xan fr e q u).k = 103) := by cases u <;> simp [xan] <;> decide
theorem come_flip {k : Nat} (hk : k < x.net.length) (hb : (decF (x.net[k]'hk).1).2 ≠ 0) : x.come k = { x with net := x.net.eraseIdx k } := by
  unfold XS.come
  rw [List.getElem?_eq_getElem hk]
  simp only []
  rw [if_pos hb]
theorem come_rq {k : Nat} (hk : k < x.net.length) {f : PFr} (hb : decF (x.net[k]'hk).1 = (f, 0)) (hf : f.k = 108 ∨ f.k = 103) : x.come k = XS.answer f { x with net := x.net.eraseIdx k } := by
  unfold XS.come
  rw [List.getElem?_eq_getElem hk]
  simp only []
  rw [hb]
  simp only [ne_eq, not_true_eq_false, if_false]
  rw [if_pos hf]
theorem come_an {k : Nat} (hk : k < x.net.length) {f : PFr} (hb : decF (x.net[k]'hk).1 = (f, 0)) (hf : ¬ (f.k = 108 ∨ f.k = 103)) : x.come k = XS.answered f { x with net := x.net.eraseIdx k } := by
  unfold XS.come
  rw [List.getElem?_eq_getElem hk]
  simp only []
  rw [hb]
  simp only [ne_eq, not_true_eq_false, if_false]
  rw [if_neg hf]
/-- what a packet may be, and what it makes -/
inductive Came (t0 : List PF) (x : XS) (k : Nat) (hk : k < x.net.length) : Prop
  | bad (hb : (decF (x.net[k]'hk).1).2 ≠ 0) (he : x.come k = { x with net := x.net.eraseIdx k })
  | req (u : XW) (e q : Nat) (hu : u.ok x.fr) (h1 : e ≤ x.ge) (h2 : q < 65536) (hr : e = x.ge → q < x.sq ∧ (q + 1 = x.sq → x.dn = false → u = x.cur)) (hb : decF (x.net[k]'hk).1 = (xrq e q u, 0)) (he : x.come k = XS.answer (xrq e q u) { x with net := x.net.eraseIdx k })
      (hp : x.come k = { x with net := x.net.eraseIdx k ++ [(frT (xan x.fr e q u), false)] })
  | old (u : XW) (e q : Nat) (hu : u.ok x.fr) (h1 : e ≤ x.ge) (h2 : q < 65536) (hr : e = x.ge → q < x.sq ∧ (q + 1 = x.sq → x.dn = false → u = x.cur)) (hb : decF (x.net[k]'hk).1 = (xan x.fr e q u, 0)) (hc : x.dn = true ∨ x.ask.k = 0 ∨ (xan x.fr e q u).q ≠ x.ask.q ∨ x.ge = 0 ∨ (xan x.fr e q u).e ≠ x.ge) (he : x.come k = { x with net := x.net.eraseIdx k })
  | now (hd : x.dn = false) (ha : x.ask.k ≠ 0) (hq : (xan x.fr x.ge (x.sq - 1) x.cur).q = x.ask.q) (hg : x.ge ≠ 0) (he1 : (xan x.fr x.ge (x.sq - 1) x.cur).e = x.ge) (hb : decF (x.net[k]'hk).1 = (xan x.fr x.ge (x.sq - 1) x.cur, 0)) (he : x.come k = XS.next (XS.took { x with net := x.net.eraseIdx k }))
theorem came (h : XInv t0 x) (k : Nat) (hk : k < x.net.length) : Came t0 x k hk := by
  have hy := erase_inv h k
  obtain ⟨u, e, q, b, hu, h1, h2, hr, hp⟩ := h.net _ (List.getElem_mem hk)
  have hge := h.g2
  rcases hp with hp | ⟨hp1, j, hp2⟩
  · have hdec : decF (x.net[k]'hk).1 = (xfm x.fr b e q u, 0) := by
      rw [hp]
      exact dec_enc _ (frm_ok h.fr hu (by omega) h2)
    cases b with
    | false =>
      have hdec : decF (x.net[k]'hk).1 = (xrq e q u, 0) := hdec
      have e1 := come_rq hk hdec (rq_kind e q u)
      refine .req u e q hu h1 h2 hr hdec e1 ?_
      rw [e1]
      exact (answer_is (x := { x with net := x.net.eraseIdx k }) h.fr hu).trans (put_frm (x := { x with net := x.net.eraseIdx k }) (b := true) h.fr hu (by omega) h2)
    | true =>
      have hdec : decF (x.net[k]'hk).1 = (xan x.fr e q u, 0) := hdec
      have e1 := come_an hk hdec (an_kind _ e q u)
      rcases answered_is hy (u := u) (e := e) (q := q) hr with ⟨hc, e2⟩ | ⟨a1, a2, a3, a4, a5, a6, a7, a8, e2⟩
      · exact .old u e q hu h1 h2 hr hdec hc (e1.trans e2)
      · have e6 : e = x.ge := a6
        have e7 : q = x.sq - 1 := a7
        have e8 : u = x.cur := a8
        subst e6 e7 e8
        exact .now a1 a2 a3 a4 a5 hdec (e1.trans e2)
  · have hb : (decF (x.net[k]'hk).1).2 ≠ 0 := by
      rw [hp2, flip_none]
      decide
    exact .bad hb (come_flip hk hb)
theorem an_pk (h : XInv t0 x) {u : XW} {e q : Nat} (hu : u.ok x.fr) (h1 : e ≤ x.ge) (h2 : q < 65536) (hr : e = x.ge → q < x.sq ∧ (q + 1 = x.sq → x.dn = false → u = x.cur)) : XPk x (frT (xan x.fr e q u), false) :=
  ⟨u, e, q, true, hu, h1, h2, hr, .inl rfl⟩
theorem rq_pk (h : XInv t0 x) {u : XW} {e q : Nat} (hu : u.ok x.fr) (h1 : e ≤ x.ge) (h2 : q < 65536) (hr : e = x.ge → q < x.sq ∧ (q + 1 = x.sq → x.dn = false → u = x.cur)) : XPk x (frT (xrq e q u), false) :=
  ⟨u, e, q, false, hu, h1, h2, hr, .inl rfl⟩
/-- a step of a transfer -/
structure Stepped (t0 : List PF) (x y : XS) : Prop where
  inv : XInv t0 y
  fr : y.fr = x.fr
  ge : y.ge ≤ x.ge + 1
  net : y.net.length ≤ x.net.length + 1
  dn : x.dn = true → y.dn = true ∧ y.tt = x.tt
theorem come_law (h : XInv t0 x) (k : Nat) (hk : k < x.net.length) : XInv t0 (x.come k) ∧ (x.come k).fr = x.fr ∧ (x.come k).ge = x.ge ∧ (x.come k).net.length ≤ x.net.length ∧ (x.dn = true → (x.come k).dn = true ∧ (x.come k).tt = x.tt) := by
  have hy := erase_inv h k
  have hlen : (x.net.eraseIdx k).length = x.net.length - 1 := by rw [List.length_eraseIdx, if_pos hk]
  cases came h k hk with
  | bad hb he =>
    rw [he]
    exact ⟨hy, rfl, rfl, by show (x.net.eraseIdx k).length ≤ _; omega, fun hd => ⟨hd, rfl⟩⟩
  | req u e q hu h1 h2 hr hb he hp =>
    rw [hp]
    refine ⟨net_inv h (fun p hp => ?_), rfl, rfl, by show (x.net.eraseIdx k ++ [_]).length ≤ _; rw [List.length_append, List.length_singleton]; omega, fun hd => ⟨hd, rfl⟩⟩
    rcases List.mem_append.1 hp with hp | hp
    · exact h.net p (List.mem_of_mem_eraseIdx hp)
    · rw [List.mem_singleton.1 hp]
      exact an_pk h hu h1 h2 hr
  | old u e q hu h1 h2 hr' hb hc he =>
    rw [he]
    exact ⟨hy, rfl, rfl, by show (x.net.eraseIdx k).length ≤ _; omega, fun hd => ⟨hd, rfl⟩⟩
  | now hd ha hq hg he1 hb he =>
    obtain ⟨m1, m2, m3, m4, m5⟩ := taken_inv hy hd
    obtain ⟨n1, n2, n3, n4, n5, n6⟩ := next_inv m1
    rw [he]
    refine ⟨n1, n3.trans m5, n4.trans m4, ?_, fun hd' => by rw [hd] at hd'; cases hd'⟩
    have e3 : (XS.took { x with net := x.net.eraseIdx k }).net.length = (x.net.eraseIdx k).length := congrArg List.length m3
    omega
theorem tick_is (h : XInv t0 x) : x.dn = true ∧ x.tick = x ∨ x.dn = false ∧ (
    x.tick = { x with age := 0, W := 1, L := badL x.W, T := badT x.T, G := 0, net := x.net ++ [(frT (xrq x.ge (x.sq - 1) x.cur), false)] } ∨
    ((x.age + 1 : Nat) : Int) < x.T ∧ x.tick = { x with age := x.age + 1 }) := by
  by_cases hd : x.dn = true
  · exact .inl ⟨hd, by unfold XS.tick; rw [if_pos (.inl hd)]⟩
  · have hd : x.dn = false := by simpa using hd
    obtain ⟨a1, a2⟩ := h.ask hd
    have hk : x.ask.k ≠ 0 := by rw [a2]; exact xrq_k _ _ _
    have hs := h.s2
    refine .inr ⟨hd, ?_⟩
    unfold XS.tick
    rw [if_neg (by rw [hd]; rintro (h | h); cases h; exact hk h)]
    by_cases hT : x.T ≤ ((x.age + 1 : Nat) : Int)
    · rw [if_pos hT]
      refine .inl ?_
      refine (congrArg (fun f => XS.put f (XS.bad { x with age := 0 })) a2).trans ?_
      exact (put_frm (x := XS.bad { x with age := 0 }) (b := false) (e := x.ge) (q := x.sq - 1) h.fr (cur_ok h.fr h.tt h.ln) h.g2 (by omega))
    · rw [if_neg hT]
      exact .inr ⟨by omega, rfl⟩
theorem tick_inv (h : XInv t0 x) : XInv t0 x.tick ∧ x.tick.fr = x.fr ∧ x.tick.ge = x.ge ∧ x.tick.net.length ≤ x.net.length + 1 ∧ x.tick.dn = x.dn ∧ x.tick.tt = x.tt := by
  rcases tick_is h with ⟨hd, e⟩ | ⟨hd, e | ⟨hT, e⟩⟩
  · rw [e]
    exact ⟨h, rfl, rfl, by omega, rfl, rfl⟩
  · have hs := h.s2
    have hb := bad_ok h.flow
    have hT2 := hb.2.2.2.2.1
    obtain ⟨a1, a2⟩ := h.ask hd
    rw [e]
    refine ⟨⟨h.fr, h.tt, h.near, fun p hp => ?_, h.ep, h.g1, h.g2, h.sm, h.s2, ⟨by show 0 ≤ 64; omega, fun _ => by show ((0 : Nat) : Int) < badT x.T; omega⟩, hb, h.ln, h.l0, h.ask, h.op, h.done, h.fl⟩, rfl, rfl, by simp, rfl, rfl⟩
    rcases List.mem_append.1 hp with hp | hp
    · exact h.net p hp
    · rw [List.mem_singleton.1 hp]
      exact rq_pk h (cur_ok h.fr h.tt h.ln) (Nat.le_refl _) (by omega) (fun _ => ⟨by omega, fun _ _ => rfl⟩)
  · have hT2 := h.flow.2.2.2.2.2.1
    rw [e]
    exact ⟨⟨h.fr, h.tt, h.near, h.net, h.ep, h.g1, h.g2, h.sm, h.s2, ⟨by show x.age + 1 ≤ 64; omega, fun _ => hT⟩, h.flow, h.ln, h.l0, h.ask, h.op, h.done, h.fl⟩, rfl, rfl, by simp, rfl, rfl⟩
theorem begin_mid (hf : Small x.fr) (ht : Small x.tt) (hn : ∀ g ∈ x.tt, g ∈ t0 ∨ ∃ f ∈ x.fr, f.line = g.line ∧ (t0 = [] → f = g)) (hp : ∀ p ∈ x.net, ∃ (u : XW) (e q : Nat) (b : Bool), u.ok x.fr ∧ e ≤ x.ge ∧ q < 65536 ∧ (p = (frT (xfm x.fr b e q u), false) ∨ p.2 = true ∧ ∃ k, p.1 = XS.flip (frT (xfm x.fr b e q u)) k)) (hd : x.dn = false) (hg : x.ge < 2147483648) :
    XMid t0 { x with ge := x.ge + 1, ep := x.ge + 1, sq := 0, ask := zfr, age := 0, W := 1, L := 32, T := 2, G := 0, ln := [], kn := false, fu := [] } := by
  refine ⟨hf, ht, hn, fun p hp2 => ?_, rfl, by show 1 ≤ x.ge + 1; omega, by show x.ge + 1 ≤ _; omega, hd, ?_, by show 0 ≤ 64; omega, by show FlowOk 1 32 2 0; unfold FlowOk; omega, fun h => (by cases h), fun _ => rfl, by show 0 ≤ 0; omega⟩
  · obtain ⟨u, e, q, b, h1, h2, h3, h4⟩ := hp p hp2
    exact ⟨u, e, q, b, h1, by show e ≤ x.ge + 1; omega, h3, fun he => by have he : e = x.ge + 1 := he; omega, h4⟩
  · unfold XS.mu
    rw [if_pos rfl]
    show 0 + (2 * x.fr.length + 1) ≤ 2 * x.fr.length + 1
    omega
theorem begin_law (h : XInv t0 x) : Stepped t0 x x.begins := by
  unfold XS.begins
  by_cases hd : x.dn = true
  · rw [if_pos hd]
    exact ⟨h, rfl, by omega, by omega, fun hd => ⟨hd, rfl⟩⟩
  · rw [if_neg hd]
    by_cases hg : 2147483648 ≤ x.ge
    · rw [if_pos hg]
      exact ⟨h, rfl, by omega, by omega, fun hd => ⟨hd, rfl⟩⟩
    · rw [if_neg hg]
      have M := begin_mid (t0 := t0) h.fr h.tt h.near (fun p hp => by obtain ⟨u, e, q, b, h1, h2, h3, _, h4⟩ := h.net p hp; exact ⟨u, e, q, b, h1, h2, h3, h4⟩) (by simpa using hd) (by omega)
      obtain ⟨n1, n2, n3, n4, n5, n6⟩ := next_inv M
      exact ⟨n1, n3, by rw [n4]; exact Nat.le_refl _, n5, fun hd' => absurd hd' hd⟩
theorem start_inv {fr t : List PF} (hf : Small fr) (ht : Small t) : XInv t (XS.start fr t) ∧ (XS.start fr t).fr = fr ∧ (XS.start fr t).ge = 1 ∧ (XS.start fr t).net.length ≤ 1 := by
  have M := begin_mid (t0 := t) (x := ⟨fr, t, 0, [], 0, 0, zfr, 0, 1, 32, 2, 0, [], false, [], false⟩) hf ht (fun g hg => .inl hg) (fun p hp => by cases hp) rfl (by show 0 < 2147483648; omega)
  obtain ⟨n1, n2, n3, n4, n5, n6⟩ := next_inv M
  unfold XS.start XS.begins
  rw [if_neg (by simp), if_neg (by simp)]
  exact ⟨n1, n3, n4, n5⟩
theorem turn_inv (h : XInv t0 x) (q : Nat) : Stepped t0 x (x.turn q) := by
  unfold XS.turn
  cases hn : x.net with
  | nil => exact ⟨h, rfl, Nat.le_succ _, Nat.le_succ _, fun hd => ⟨hd, rfl⟩⟩
  | cons p r =>
    simp only []
    by_cases hp : p.2 = true
    · rw [if_pos hp]
      exact ⟨h, rfl, by omega, by omega, fun hd => ⟨hd, rfl⟩⟩
    · rw [if_neg hp]
      refine ⟨net_inv h (fun p' hp' => ?_), rfl, by show x.ge ≤ _; omega, by simp [hn], fun hd => ⟨hd, rfl⟩⟩
      rcases List.mem_cons.1 hp' with rfl | hp'
      · obtain ⟨u, e, q', b, h1, h2, h3, h4, h5⟩ := h.net p (by rw [hn]; simp)
        refine ⟨u, e, q', b, h1, h2, h3, h4, .inr ⟨rfl, q, ?_⟩⟩
        rcases h5 with h5 | ⟨h5, _⟩
        · rw [h5]
        · exact absurd h5 hp
      · exact h.net p' (by rw [hn]; exact List.mem_cons_of_mem _ hp')
/-- each deed keeps what holds -/
theorem act_law (h : XInv t0 x) (v : Int) : Stepped t0 x (x.act v) := by
  unfold XS.act
  by_cases h0 : v < 0
  · rw [if_pos h0]; exact ⟨h, rfl, by omega, by omega, fun hd => ⟨hd, rfl⟩⟩
  rw [if_neg h0]
  simp only []
  by_cases h6 : v.toNat % 8 = 6
  · rw [if_pos h6]
    obtain ⟨t1, t2, t3, t4, t5, t6⟩ := tick_inv h
    exact ⟨t1, t2, by omega, t4, fun hd => ⟨t5.trans hd, t6⟩⟩
  rw [if_neg h6]
  by_cases h7 : v.toNat % 8 = 7
  · rw [if_pos h7]; exact begin_law h
  rw [if_neg h7]
  by_cases hn : x.net = []
  · rw [if_pos hn]; exact ⟨h, rfl, by omega, by omega, fun hd => ⟨hd, rfl⟩⟩
  rw [if_neg hn]
  have hpos : 0 < x.net.length := List.length_pos_iff.2 hn
  have hm : v.toNat / 8 % x.net.length < x.net.length := Nat.mod_lt _ hpos
  by_cases h3 : v.toNat % 8 < 3
  · rw [if_pos h3]
    obtain ⟨t1, t2, t3, t4, t5⟩ := come_law h _ hm
    exact ⟨t1, t2, by omega, by omega, t5⟩
  rw [if_neg h3]
  by_cases h3' : v.toNat % 8 = 3
  · rw [if_pos h3']
    exact ⟨erase_inv h _, rfl, by show x.ge ≤ _; omega, by show (x.net.eraseIdx _).length ≤ _; rw [List.length_eraseIdx]; split <;> omega, fun hd => ⟨hd, rfl⟩⟩
  rw [if_neg h3']
  by_cases h4 : v.toNat % 8 = 4
  · rw [if_pos h4]
    by_cases h5 : x.net.length < 500
    · rw [if_pos h5, List.getElem?_eq_getElem hm]
      refine ⟨net_inv h (fun p hp => ?_), rfl, by show x.ge ≤ _; omega, by simp, fun hd => ⟨hd, rfl⟩⟩
      rcases List.mem_append.1 hp with hp | hp
      · exact h.net p hp
      · have : p = x.net[v.toNat / 8 % x.net.length] := by simpa using hp
        rw [this]; exact h.net _ (List.getElem_mem hm)
    · rw [if_neg h5]; exact ⟨h, rfl, by omega, by omega, fun hd => ⟨hd, rfl⟩⟩
  rw [if_neg h4]
  exact turn_inv h _

/-! ### the end -/
def gan (x : XS) : List UInt8 × Bool := (frT (xan x.fr x.ge (x.sq - 1) x.cur), false)
def grq (x : XS) : List UInt8 × Bool := (frT (xrq x.ge (x.sq - 1) x.cur), false)
theorem comes_law (n : Nat) : ∀ {x : XS}, XInv t0 x → n ≤ x.net.length →
    XInv t0 (XS.comes n x) ∧ (XS.comes n x).fr = x.fr ∧ (XS.comes n x).ge = x.ge ∧ (XS.comes n x).net.length ≤ x.net.length ∧ (x.dn = true → (XS.comes n x).dn = true ∧ (XS.comes n x).tt = x.tt) ∧
    (x.dn = false → ((XS.comes n x).dn = true ∨ (XS.comes n x).mu < x.mu) ∨ ∃ l, XS.comes n x = { x with net := l } ∧ (∀ p ∈ x.net.drop n, p ∈ l) ∧ (∀ p ∈ x.net.take n, p ≠ gan x) ∧ (∀ p ∈ x.net.take n, p = grq x → gan x ∈ l)) := by
  induction n with
  | zero =>
    intro x h hn
    refine ⟨h, rfl, rfl, Nat.le_refl _, fun hd => ⟨hd, rfl⟩, fun hd => .inr ⟨x.net, rfl, fun p hp => by simpa using hp, fun p hp => by simp at hp, fun p hp => by simp at hp⟩⟩
  | succ n ih =>
    intro x h hn
    have hne : x.net ≠ [] := fun e => by rw [e] at hn; simp at hn
    have h0 : 0 < x.net.length := by omega
    have ec : XS.comes (n + 1) x = XS.comes n (x.come 0) := by
      show (if x.net = [] then x else XS.comes n (x.come 0)) = _
      rw [if_neg hne]
    obtain ⟨p0, r, hnet⟩ : ∃ p0 r, x.net = p0 :: r := by
      cases e : x.net with
      | nil => exact absurd e hne
      | cons p0 r => exact ⟨p0, r, rfl⟩
    have her : x.net.eraseIdx 0 = r := by rw [hnet]; rfl
    have hr : n ≤ r.length := by rw [hnet] at hn; simpa using hn
    have hp0 : x.net[0]'h0 = p0 := by simp [hnet]
    have hs := h.s2
    obtain ⟨c1, c2, c3, c4, c5⟩ := come_law h 0 h0
    have hcok := cur_ok h.fr h.tt h.ln
    have hg2 := h.g2
    have okA : frC (xfm x.fr true x.ge (x.sq - 1) x.cur) = 0 := frm_ok h.fr hcok hg2 (by omega)
    have okR : frC (xfm x.fr false x.ge (x.sq - 1) x.cur) = 0 := frm_ok h.fr hcok hg2 (by omega)
    -- what stays when the packet makes nothing new
    have stay : ∀ add : List (List UInt8 × Bool), x.come 0 = { x with net := r ++ add } → (x.dn = false → p0 ≠ gan x) → (x.dn = false → p0 = grq x → gan x ∈ add) →
        XInv t0 (XS.comes n (x.come 0)) ∧ (XS.comes n (x.come 0)).fr = x.fr ∧ (XS.comes n (x.come 0)).ge = x.ge ∧ (XS.comes n (x.come 0)).net.length ≤ x.net.length ∧ (x.dn = true → (XS.comes n (x.come 0)).dn = true ∧ (XS.comes n (x.come 0)).tt = x.tt) ∧
        (x.dn = false → ((XS.comes n (x.come 0)).dn = true ∨ (XS.comes n (x.come 0)).mu < x.mu) ∨ ∃ l, XS.comes n (x.come 0) = { x with net := l } ∧ (∀ p ∈ x.net.drop (n + 1), p ∈ l) ∧ (∀ p ∈ x.net.take (n + 1), p ≠ gan x) ∧ (∀ p ∈ x.net.take (n + 1), p = grq x → gan x ∈ l)) := by
      intro add he ha hq
      rw [he] at c1 c4 ⊢
      have c4 : (r ++ add).length ≤ x.net.length := c4
      obtain ⟨i1, i2, i3, i4, i5, i6⟩ := ih c1 (by show n ≤ (r ++ add).length; rw [List.length_append]; omega)
      refine ⟨i1, i2, i3, Nat.le_trans i4 c4, i5, fun hd => ?_⟩
      rcases i6 hd with i6 | ⟨l, e1, e2, e3, e4⟩
      · exact .inl i6
      · have hdr : ∀ p, p ∈ r.drop n ∨ p ∈ add → p ∈ l := fun p hp => e2 p (by
          show p ∈ (r ++ add).drop n
          rw [List.drop_append_of_le_length hr]
          exact List.mem_append.2 hp)
        have htk : (r ++ add).take n = r.take n := List.take_append_of_le_length hr
        have e3 : ∀ p ∈ (r ++ add).take n, p ≠ gan x := e3
        have e4 : ∀ p ∈ (r ++ add).take n, p = grq x → gan x ∈ l := e4
        rw [htk] at e3 e4
        refine .inr ⟨l, e1, fun p hp => hdr p (.inl (by rw [hnet] at hp; simpa using hp)), fun p hp => ?_, fun p hp e => ?_⟩
        · rw [hnet, List.take_succ_cons] at hp
          rcases List.mem_cons.1 hp with rfl | hp
          · exact ha hd
          · exact e3 p hp
        · rw [hnet, List.take_succ_cons] at hp
          rcases List.mem_cons.1 hp with rfl | hp
          · exact hdr _ (.inr (hq hd e))
          · exact e4 p hp e
    rw [ec]
    cases came h 0 h0 with
    | bad hb he =>
      rw [hp0] at hb
      rw [her] at he
      refine stay [] (by rw [List.append_nil]; exact he) (fun _ e => ?_) (fun _ e => ?_)
      · rw [e] at hb
        exact hb (by show (decF (frT (xfm x.fr true x.ge (x.sq - 1) x.cur))).2 = 0; rw [dec_enc _ okA])
      · rw [e] at hb
        exact absurd (by show (decF (frT (xfm x.fr false x.ge (x.sq - 1) x.cur))).2 = 0; rw [dec_enc _ okR]) hb
    | req u e q hu h1 h2 hr' hb he hp =>
      rw [hp0] at hb
      rw [her] at hp
      refine stay _ hp (fun hd e' => ?_) (fun hd e' => ?_)
      · rw [e'] at hb
        have : decF (frT (xfm x.fr true x.ge (x.sq - 1) x.cur)) = (xrq e q u, 0) := hb
        rw [dec_enc _ okA] at this
        have k1 := congrArg (fun z => z.1.k) this
        exact absurd (by have := rq_kind e q u; rw [← k1] at this; exact this) (an_kind x.fr x.ge (x.sq - 1) x.cur)
      · rw [e'] at hb
        have : decF (frT (xfm x.fr false x.ge (x.sq - 1) x.cur)) = (xrq e q u, 0) := hb
        rw [dec_enc _ okR] at this
        have hf : xrq x.ge (x.sq - 1) x.cur = xrq e q u := congrArg Prod.fst this
        have k1 : e = x.ge := by have := congrArg PFr.e hf; rw [xrq_e, xrq_e] at this; omega
        have k2 : q = x.sq - 1 := by have := congrArg PFr.q hf; rw [xrq_q, xrq_q] at this; omega
        have k3 := (hr' k1).2 (by have := (h.ask hd).1; omega) hd
        rw [k1, k2, k3]
        exact List.mem_singleton.2 rfl
    | old u e q hu h1 h2 hr' hb hc he =>
      rw [hp0] at hb
      rw [her] at he
      refine stay [] (by rw [List.append_nil]; exact he) (fun hd e' => ?_) (fun hd e' => ?_)
      · obtain ⟨a1, a2⟩ := h.ask hd
        rw [e'] at hb
        have : decF (frT (xfm x.fr true x.ge (x.sq - 1) x.cur)) = (xan x.fr e q u, 0) := hb
        rw [dec_enc _ okA] at this
        have hf : xan x.fr x.ge (x.sq - 1) x.cur = xan x.fr e q u := congrArg Prod.fst this
        have hk : x.ask.k ≠ 0 := by rw [a2]; exact xrq_k _ _ _
        have hg := h.g1
        rw [← hf] at hc
        rcases hc with hc | hc | hc | hc | hc
        · rw [hd] at hc; cases hc
        · exact hk hc
        · exact hc (by rw [a2, xan_q, xrq_q])
        · omega
        · exact hc (xan_e _ _ _ _)
      · rw [e'] at hb
        have : decF (frT (xfm x.fr false x.ge (x.sq - 1) x.cur)) = (xan x.fr e q u, 0) := hb
        rw [dec_enc _ okR] at this
        have k1 := congrArg (fun z => z.1.k) this
        exact absurd (by have := rq_kind x.ge (x.sq - 1) x.cur; rw [show (xrq x.ge (x.sq - 1) x.cur).k = (xan x.fr e q u).k from k1] at this; exact this) (an_kind x.fr e q u)
    | now hd ha hq hg he1 hb he =>
      obtain ⟨m1, m2, m3, m4, m5⟩ := taken_inv (erase_inv h 0) hd
      obtain ⟨n1, n2, n3, n4, n5, n6⟩ := next_inv m1
      have e3 : (XS.took { x with net := x.net.eraseIdx 0 }).net.length = r.length := by rw [m3]; exact congrArg List.length her
      rw [← he] at n2 n6
      have m2 : (XS.took { x with net := x.net.eraseIdx 0 }).mu < x.mu := m2
      obtain ⟨i1, i2, i3, i4, i5, i6⟩ := ih c1 (by omega)
      refine ⟨i1, i2.trans c2, i3.trans c3, by omega, fun hd' => (by rw [hd] at hd'; cases hd'), fun _ => .inl ?_⟩
      cases hd1 : (x.come 0).dn with
      | true => exact .inl (i5 hd1).1
      | false =>
        have hm : (x.come 0).mu < x.mu := by
          rcases n2 with n2 | n2
          · rw [hd1] at n2; cases n2
          · omega
        rcases i6 hd1 with (i6 | i6) | ⟨l, e1, _⟩
        · exact .inl i6
        · exact .inr (by omega)
        · refine .inr ?_
          rw [e1]
          exact hm
open Classical in
noncomputable def ph (x : XS) : Nat := if gan x ∈ x.net then 0 else if grq x ∈ x.net then 1 else 2 + (64 - x.age)
theorem ph_le (x : XS) : ph x ≤ 66 := by unfold ph; (repeat' split) <;> omega
theorem ph_ans (h : gan x ∈ x.net) : ph x = 0 := by unfold ph; rw [if_pos h]
theorem ph_req (h : grq x ∈ x.net) : ph x ≤ 1 := by unfold ph; rw [if_pos h]; split <;> omega
theorem ph_age (x : XS) : ph x ≤ 2 + (64 - x.age) := by unfold ph; (repeat' split) <;> omega
theorem ph_none (h1 : gan x ∉ x.net) (h2 : grq x ∉ x.net) : ph x = 2 + (64 - x.age) := by unfold ph; rw [if_neg h1, if_neg h2]
theorem ph_some (h1 : gan x ∉ x.net) : 1 ≤ ph x := by unfold ph; rw [if_neg h1]; split <;> omega
/-- what is still to be done: no turn leaves it as it is -/
noncomputable def left (x : XS) : Nat := x.mu * 67 + ph x
def XS.round (x : XS) : XS := (XS.comes x.net.length x).tick
theorem mu_le (h : XInv t0 x) : x.mu ≤ 41 := by
  have := x.needs_le
  have := h.fr.wf.few
  unfold XS.mu
  split <;> omega
theorem left_le (h : XInv t0 x) : left x ≤ 3000 := by
  have := mu_le h
  have := ph_le x
  unfold left
  omega
theorem round_law (h : XInv t0 x) : XInv t0 x.round ∧ x.round.fr = x.fr ∧ x.round.ge = x.ge ∧ x.round.net.length ≤ x.net.length + 1 ∧ (x.dn = true → x.round.dn = true ∧ x.round.tt = x.tt) ∧ (x.dn = false → x.round.dn = true ∨ left x.round < left x) := by
  obtain ⟨c1, c2, c3, c4, c5, c6⟩ := comes_law x.net.length h (Nat.le_refl _)
  have hr : x.round = (XS.comes x.net.length x).tick := rfl
  rw [hr]
  generalize XS.comes x.net.length x = y at *
  obtain ⟨t1, t2, t3, t4, t5, t6⟩ := tick_inv c1
  refine ⟨t1, t2.trans c2, t3.trans c3, by omega, fun hd => ⟨t5.trans (c5 hd).1, t6.trans (c5 hd).2⟩, fun hd => ?_⟩
  cases hdy : y.dn with
  | true => exact .inl (t5.trans hdy)
  | false =>
    refine .inr ?_
    have hmu : y.tick.mu = y.mu := by
      rcases tick_is c1 with ⟨_, e⟩ | ⟨_, e | ⟨_, e⟩⟩ <;> rw [e] <;> rfl
    rcases c6 hd with (hy | hy) | ⟨l, e1, e2, e3, e4⟩
    · rw [hdy] at hy; cases hy
    · have := ph_le y.tick
      unfold left
      omega
    · rw [List.take_length] at e3 e4
      have hno : gan x ∉ x.net := fun hm => e3 _ hm rfl
      have hmx : y.mu = x.mu := by rw [e1]; rfl
      have hgy : gan y = gan x := by rw [e1]; rfl
      have hqy : grq y = grq x := by rw [e1]; rfl
      have hay : y.age = x.age := by rw [e1]
      have hly : y.net = l := by rw [e1]
      have hcase : (gan x ∈ y.net → gan y.tick ∈ y.tick.net) ∧ (grq y.tick ∈ y.tick.net ∨ y.tick.age = x.age + 1) := by
        rcases tick_is c1 with ⟨h1, _⟩ | ⟨_, e | ⟨_, e⟩⟩
        · rw [hdy] at h1; cases h1
        · rw [e]
          refine ⟨fun hm => ?_, .inl ?_⟩
          · show gan y ∈ y.net ++ _
            rw [hgy]
            exact List.mem_append_left _ hm
          · show grq y ∈ y.net ++ [grq y]
            simp
        · rw [e]
          refine ⟨fun hm => ?_, .inr ?_⟩
          · show gan y ∈ y.net
            rw [hgy]
            exact hm
          · show y.age + 1 = _
            rw [hay]
      have hage : x.age < 64 := by
        have := h.age.2 hd
        have := h.flow.2.2.2.2.2.1
        omega
      unfold left
      rw [hmu, hmx]
      by_cases hq : grq x ∈ x.net
      · have hg := e4 _ hq rfl
        rw [← hly] at hg
        have := ph_ans (hcase.1 hg)
        have := ph_some hno
        omega
      · rw [ph_none hno hq]
        rcases hcase.2 with hr | hr
        · have := ph_req hr
          omega
        · have := ph_age y.tick
          omega
theorem fin_step (n : Nat) (x : XS) (h : x.dn = false) : XS.fin (n + 1) x = XS.fin n x.round := by
  show (if x.dn = true then x else _) = _
  rw [if_neg (by rw [h]; simp)]
  rfl
theorem fin_done (n : Nat) (x : XS) (h : x.dn = true) : XS.fin n x = x := by
  cases n with
  | zero => rfl
  | succ n => show (if x.dn = true then x else _) = _; rw [if_pos h]
theorem fin_law (n : Nat) : ∀ {x : XS}, XInv t0 x → (x.dn = true ∨ left x ≤ n) → (XS.fin n x).dn = true ∧ XInv t0 (XS.fin n x) ∧ (XS.fin n x).fr = x.fr ∧ (XS.fin n x).ge = x.ge ∧ (XS.fin n x).net.length ≤ x.net.length + n := by
  induction n with
  | zero =>
    intro x h hl
    cases hd : x.dn with
    | true => exact ⟨hd, h, rfl, rfl, by simp [XS.fin]⟩
    | false =>
      rcases hl with hl | hl
      · rw [hd] at hl; cases hl
      · exfalso
        obtain ⟨_, _, _, _, _, r6⟩ := round_law h
        rcases r6 hd with r | r
        · have : 1 ≤ left x := by
            cases hk : x.kn with
            | false =>
              have : x.mu = 2 * x.fr.length + 1 := by unfold XS.mu; rw [if_pos hk]
              unfold left; omega
            | true =>
              obtain ⟨f0, hf0, hno, _, _⟩ := took_one h hd hk
              have hm : x.mu = (x.fr.map x.need).sum := by unfold XS.mu; rw [if_neg (by simp [hk])]
              have hpos : (x.fr.map fun _ => 0).sum < (x.fr.map x.need).sum := sum_lt (fun _ _ => Nat.zero_le _) hf0 (by unfold XS.need; rw [if_neg hno]; split <;> omega)
              unfold left; omega
          omega
        · omega
  | succ n ih =>
    intro x h hl
    cases hd : x.dn with
    | true => rw [fin_done _ _ hd]; exact ⟨hd, h, rfl, rfl, by omega⟩
    | false =>
      obtain ⟨r1, r2, r3, r4, r5, r6⟩ := round_law h
      rw [fin_step n x hd]
      obtain ⟨i1, i2, i3, i4, i5⟩ := ih r1 (by
        rcases r6 hd with r | r
        · exact .inl r
        · rcases hl with hl | hl
          · rw [hd] at hl; cases hl
          · exact .inr (by omega))
      exact ⟨i1, i2, i3.trans r2, i4.trans r3, by omega⟩
end
end Go.Proofs.YtdpoalbbcmkceaaGreatDoor
/- Contract of a transfer: Finish. -/
namespace Go.Proofs.YtdpoalbbcmkceaaGreatDoor
open Go.RowKit
set_option linter.unusedVariables false
/-- the contract of come, where all holds that is to hold -/
def ComeOk (w0 : World) (xb : Nat) (t0 : List PF) : Prop := ∀ (x : XS) (k : Nat) (w : World) (A : XA), XInv t0 x → XAt w0 w xb A x → k < x.net.length → x.net.length ≤ 1000000000 →
    Calls Tryz.prog 24 #[.pointer (some ⟨xb, 0, none⟩), .int .i64 k] w fun e w' => e = .returned (.tuple #[]) ∧ ∃ A', XAt w0 w' xb A' (x.come k)
section
variable {E : Nat → Addr} {w0 w : World} {xb : Nat} {A : XA} {x : XS} {t0 : List PF}
theorem comes_step {x : XS} {n : Nat} (h : 0 < x.net.length) : XS.comes (n + 1) x = XS.comes n (x.come 0) := by
  show (if x.net = [] then x else XS.comes n (x.come 0)) = _
  rw [if_neg (fun e => by rw [e] at h; simp at h)]
theorem comes_none {x : XS} {n : Nat} (h : x.net.length = 0) : XS.comes n x = x := by
  cases n with
  | zero => rfl
  | succ n => show (if x.net = [] then x else XS.comes n (x.come 0)) = _; rw [if_pos (List.eq_nil_of_length_eq_zero h)]
def turnsN : Nat := 1048576
theorem turnsN_is : turnsN = 1048576 := rfl
attribute [irreducible] turnsN
/-- a round of packets and a tick -/
theorem fin_tick {x x' : XS} {n : Nat} (hd : x.dn = false) (h : XS.comes x.net.length x = x') : XS.fin (n + 1) x = XS.fin n x'.tick := by
  rw [fin_step n x hd]
  unfold XS.round
  rw [h]
set_option maxRecDepth 100000 in
set_option maxHeartbeats 12800000 in
theorem xfinish_any (hI : XInv t0 x) (h : XAt w0 w xb A x) (hn : x.net.length ≤ 1000000) (hg : x.ge ≤ 100000) (CM : ComeOk w0 xb t0) (h2 : Has E w0 2) (h4 : Has E w0 4) :
    Calls Tryz.prog 10 #[.pointer (some ⟨xb, 0, none⟩)] w fun e w' => e = .returned (.bool true) ∧ ∃ A', XAt w0 w' xb A' (XS.fin turnsN x) := by
  have FD := Lib.hid (fin_law turnsN hI (.inr (by have := left_le hI; have := turnsN_is; omega))).1
  have CMH := Lib.hid CM
  have TK := Lib.hid (fun (x' : XS) (hI : XInv t0 x') (w' : World) (A' : XA) (h : XAt w0 w' xb A' x') (hn : x'.net.length ≤ 1000000000) => xtick_any (E := E) h hI.flow (by have := hI.age.1; omega) hn h2 h4)
  have HX := Lib.hid h
  have HI := Lib.hid hI
  have HN := Lib.hid hn
  clear h hI hn hg CM h2 h4
  go_enter Tryz.func10, Tryz.ntmps10
  go_wp2_with fail
  go_loopw [4, 3] (fun i n wr => ∃ (k : Nat) (x' : XS) (A' : XA), i = .int .i64 k ∧ k ≤ turnsN ∧ XAt w0 wr xb A' x' ∧ XInv t0 x' ∧ XS.fin (turnsN - k) x' = XS.fin turnsN x ∧ x'.net.length ≤ 1000000 + k) (fun i _ _ => turnsN - (intOf i).toNat)
  case atStart => exact ⟨0, x, A, rfl, by omega, HX.out, HI.out, rfl, HN.out⟩
  case round =>
    obtain ⟨k, x', A', rfl, hk, hX, hI, hf, hn⟩ := hrel
    clear HX HI HN
    have c15 := hX.cells.cs.2.2.2.2.2.2.2.2.2.2.2.2.2.2.2
    have hT := turnsN_is
    by_cases hlt : k < turnsN
    · have hltI : (k : Int) < 1048576 := by omega
      by_cases hd : x'.dn = true
      · rw [hd] at c15
        rw [fin_done _ _ hd] at hf
        have HXF := Lib.hid hX
        have HF := Lib.hid hf
        clear hX hf hI hd
        go_wp2_with fail
        go_ret
        exact ⟨rfl, A', by rw [← HF.out]; exact HXF.out⟩
      · have hd : x'.dn = false := by simpa using hd
        rw [hd] at c15
        have c3 := hX.cells.cs.2.2.2.1
        obtain ⟨va, vc, hv⟩ := owns_slice hX.rest.nt
        rw [hv] at c3
        have HXF := Lib.hid hX
        have HI := Lib.hid hI
        obtain ⟨m, hm⟩ : ∃ m, x'.net.length = m := ⟨_, rfl⟩
        obtain ⟨r, hr⟩ : ∃ r, turnsN - k = r + 1 := ⟨turnsN - k - 1, by omega⟩
        have HF := Lib.hid (fun (y : XS) (h : XS.comes m x' = y) => (fin_tick (x' := y) (n := r) hd (by rw [hm]; exact h)).symm.trans ((congrArg (fun n => XS.fin n x') hr).symm.trans hf))
        have KK := Lib.hid (show k + 1 ≤ turnsN ∧ turnsN - (k + 1) = r by omega)
        have HM := Lib.hid (show x'.net.length ≤ m by omega)
        have HT := Lib.hid hT
        have HLT := Lib.hid hlt
        have hkw : IntKind.i64.wrap ((k : Int) + 1) = (k : Int) + 1 := IntWalk.i64_in _ (by omega)
        rw [hm] at c3 hn
        have HNN := Lib.hid hn
        have HMS : m ≤ 1000000000 := by have := turnsN_is; omega
        clear hX hf hI hr hT hlt hk hv hn hm
        rename_i hdd
        clear hd hdd
        go_wp2_with fail
        clear hltI
        go_loopw [3] (fun i wr => ∃ (j : Nat) (y : XS) (A' : XA), i = .int .i64 j ∧ j ≤ m ∧ XAt w0 wr xb A' y ∧ XInv t0 y ∧ XS.comes j y = XS.comes m x' ∧ y.net.length ≤ m) (fun i _ => (intOf i).toNat)
        case atStart => exact ⟨m, x', A', rfl, Nat.le_refl _, HXF.out, HI.out, rfl, HM.out⟩
        case round =>
          clear HXF HI HM c3 c15
          obtain ⟨j, y, A1, rfl, hj, hX, hI, hc, hny⟩ := hrel
          have c3 := hX.cells.cs.2.2.2.1
          obtain ⟨ya, yc, hv⟩ := owns_slice hX.rest.nt
          rw [hv] at c3
          by_cases hj0 : j = 0
          · subst hj0
            have HF2 := Lib.hid (HF.out y hc.symm)
            have T := Lib.hid (TK.out y hI _ A1 hX (by omega))
            have TI := Lib.hid (tick_inv hI)
            have HNY := Lib.hid hny
            clear HF hc hX hI hv hny hj HMS
            go_wp2_with fail
            refine T.out.mono ?_
            rintro e w9 ⟨rfl, A9, hA⟩
            have HA := Lib.hid hA
            clear hA T c3
            go_wp2_with fail
            go_roundw
            case rel => exact ⟨k + 1, _, A9, by go_num, KK.out.1, HA.out, TI.out.1, by rw [KK.out.2]; exact HF2.out, by have := TI.out.2.2.2.1; have := HNN.out; have := HNY.out; omega⟩
            case measure => (have := HT.out; have := HLT.out; simp [intOf]; omega)
          · have hjI : (0 : Int) < j := by omega
            by_cases hn0 : y.net.length = 0
            · rw [comes_none hn0] at hc
              have HF2 := Lib.hid (HF.out y hc.symm)
              have T := Lib.hid (TK.out y hI _ A1 hX (by omega))
              have TI := Lib.hid (tick_inv hI)
              rw [hn0] at c3
              have HNY := Lib.hid hny
              clear HF hc hX hI hv hj0 hn0 hny hj HMS
              go_wp2_with fail
              refine T.out.mono ?_
              rintro e w9 ⟨rfl, A9, hA⟩
              have HA := Lib.hid hA
              clear hA T c3
              go_wp2_with fail
              go_roundw
              case rel => exact ⟨k + 1, _, A9, by go_num, KK.out.1, HA.out, TI.out.1, by rw [KK.out.2]; exact HF2.out, by have := TI.out.2.2.2.1; have := HNN.out; have := HNY.out; omega⟩
              case measure => (have := HT.out; have := HLT.out; simp [intOf]; omega)
            · have hnI : (0 : Int) < y.net.length := by omega
              obtain ⟨j', rfl⟩ : ∃ j', j = j' + 1 := ⟨j - 1, by omega⟩
              rw [comes_step (by omega)] at hc
              have C := Lib.hid (CMH.out y 0 _ A1 hI hX (by omega) (by omega))
              have CI := Lib.hid (come_law hI 0 (by omega))
              have HC := Lib.hid hc
              have HNY := Lib.hid hny
              have HJ := Lib.hid hj
              have hjw : IntKind.i64.wrap (((j' + 1 : Nat) : Int) - 1) = (j' : Int) := by rw [IntWalk.i64_in _ (by omega)]; omega
              generalize hJI : ((j' + 1 : Nat) : Int) = jI at *
              have HJI := Lib.hid hJI
              clear hc hX hI hv hj0 hn0 hny hj hJI HMS
              go_wp2_with fail
              refine C.out.mono ?_
              rintro e w9 ⟨rfl, A9, hA⟩
              have HA := Lib.hid hA
              clear hA C c3
              go_wp2_with fail
              go_roundw
              case rel => exact ⟨j', _, A9, by go_num, by have := HJ.out; omega, HA.out, CI.out.1, HC.out, by have := CI.out.2.2.2.1; have := HNY.out; omega⟩
              case measure => (have := HJI.out; simp [intOf]; omega)
    · have hltI : ¬ (k : Int) < 1048576 := by omega
      have hk0 : turnsN - k = 0 := by omega
      rw [hk0] at hf
      have hf : x' = XS.fin turnsN x := hf
      have hdn : x'.dn = true := by have := FD.out; rw [← hf] at this; exact this
      rw [hdn] at c15
      have HXF := Lib.hid hX
      have HF := Lib.hid hf
      clear hX hf hI hdn hT
      go_wp2_with fail
      go_ret
      refine ⟨rfl, A', ?_⟩
      have h1 := HF.out
      have h2 := turnsN_is
      rw [← h1]
      exact HXF.out
end
end Go.Proofs.YtdpoalbbcmkceaaGreatDoor
/- Contract of a transfer: Do. -/
namespace Go.Proofs.YtdpoalbbcmkceaaGreatDoor
open Go.RowKit
set_option linter.unusedVariables false
theorem two_newsP {w : World} {b : Nat} {x y : Value} {t : TypeId} (h : w.heap[b]? = some (.cells #[x, y] t (0, 0))) : ∀ j u', [x, y][j]? = some u' → w.cell? ((⟨b, 0, none⟩ : Addr).add j) = some u' := by
  intro j u hj
  match j, hj with
  | 0, hj => simp at hj; subst hj; simp [World.cell?, h, Addr.add]
  | 1, hj => simp at hj; subst hj; simp [World.cell?, h, Addr.add]
section
variable {E : Nat → Addr} {w0 w : World} {xb : Nat} {A : XA} {x : XS} {t0 : List PF}
theorem act_6 {v : Nat} (h : v % 8 = 6) : x.act (v : Int) = x.tick := by
  unfold XS.act
  rw [if_neg (by omega)]
  simp only [Int.toNat_natCast]
  rw [if_pos h]
theorem act_7 {v : Nat} (h : v % 8 = 7) : x.act (v : Int) = x.begins := by
  unfold XS.act
  rw [if_neg (by omega)]
  simp only [Int.toNat_natCast]
  rw [if_neg (by omega), if_pos h]
theorem act_none {v : Nat} (h6 : v % 8 ≠ 6) (h7 : v % 8 ≠ 7) (hn : x.net = []) : x.act (v : Int) = x := by
  unfold XS.act
  rw [if_neg (by omega)]
  simp only [Int.toNat_natCast]
  rw [if_neg h6, if_neg h7, if_pos hn]
theorem act_come {v : Nat} (h : v % 8 < 3) (hn : x.net ≠ []) : x.act (v : Int) = x.come (v / 8 % x.net.length) := by
  unfold XS.act
  rw [if_neg (by omega)]
  simp only [Int.toNat_natCast]
  rw [if_neg (by omega), if_neg (by omega), if_neg hn, if_pos h]
theorem act_lose {v : Nat} (h : v % 8 = 3) (hn : x.net ≠ []) : x.act (v : Int) = { x with net := x.net.eraseIdx (v / 8 % x.net.length) } := by
  unfold XS.act
  rw [if_neg (by omega)]
  simp only [Int.toNat_natCast]
  rw [if_neg (by omega), if_neg (by omega), if_neg hn, if_neg (by omega), if_pos h]
theorem act_twice {v : Nat} (h : v % 8 = 4) (hn : x.net ≠ []) : x.act (v : Int) = if hl : x.net.length < 500 then { x with net := x.net ++ [x.net[v / 8 % x.net.length]'(Nat.mod_lt _ (List.length_pos_iff.2 hn))] } else x := by
  unfold XS.act
  rw [if_neg (by omega)]
  simp only [Int.toNat_natCast]
  rw [if_neg (by omega), if_neg (by omega), if_neg hn, if_neg (by omega), if_neg (by omega), if_pos h]
  have hlt : v / 8 % x.net.length < x.net.length := Nat.mod_lt _ (List.length_pos_iff.2 hn)
  by_cases hl : x.net.length < 500
  · rw [if_pos hl, dif_pos hl, List.getElem?_eq_getElem hlt]
    rfl
  · rw [if_neg hl, dif_neg hl]
theorem act_turn {v : Nat} (h : v % 8 = 5) (hn : x.net ≠ []) : x.act (v : Int) = x.turn (v / 8) := by
  unfold XS.act
  rw [if_neg (by omega)]
  simp only [Int.toNat_natCast]
  rw [if_neg (by omega), if_neg (by omega), if_neg hn, if_neg (by omega), if_neg (by omega), if_neg (by omega)]
theorem act_neg {v : Int} (h : v < 0) : x.act v = x := by unfold XS.act; rw [if_pos h]
set_option maxRecDepth 100000 in
set_option maxHeartbeats 6400000 in
theorem xbegun_any (h : XAt w0 w xb A x) (hd : x.dn = true) :
    Calls Tryz.prog 22 #[.pointer (some ⟨xb, 0, none⟩)] w fun e w' => e = .returned (.tuple #[]) ∧ ∃ A', XAt w0 w' xb A' x.begins := by
  have HX := Lib.hid h
  have e : x.begins = x := by unfold XS.begins; rw [if_pos hd]
  have c15 := h.cells.cs.2.2.2.2.2.2.2.2.2.2.2.2.2.2.2
  rw [hd] at c15
  rw [e]
  clear h hd e
  go_enter Tryz.func22, Tryz.ntmps22
  go_wp2_with fail
  go_returns
  exact ⟨rfl, A, HX.out⟩
set_option maxRecDepth 100000 in
set_option maxHeartbeats 12800000 in
theorem xdo_any (v : Int) (hv : -9223372036854775808 ≤ v ∧ v < 9223372036854775808) (hI : XInv t0 x) (h : XAt w0 w xb A x) (hn : x.net.length ≤ 100000000) (hg : x.ge < 1000000) (hpl : ∀ p ∈ x.net, 0 < p.1.length ∧ p.1.length ≤ 100000) (CM : ComeOk w0 xb t0) (h2 : Has E w0 2) (h4 : Has E w0 4) (h5 : Has E w0 5) (h8 : Has E w0 8) :
    Calls Tryz.prog 9 #[.pointer (some ⟨xb, 0, none⟩), .int .i64 v] w fun e w' => e = .returned (.tuple #[]) ∧ ∃ A', XAt w0 w' xb A' (x.act v) := by
  have HX := Lib.hid h
  by_cases hv0 : v < 0
  · rw [act_neg hv0]
    have hvI : decide (v < 0) = true := by simpa using hv0
    clear h hI CM h2 h4 h5 h8 hpl hv hn hg
    go_enter Tryz.func9, Tryz.ntmps9
    go_wp2_with fail
    go_returns
    exact ⟨rfl, A, HX.out⟩
  · obtain ⟨m, rfl⟩ : ∃ m : Nat, v = m := ⟨v.toNat, by omega⟩
    have hvI : decide ((m : Int) < 0) = false := by simp
    obtain ⟨kk, hkk⟩ : ∃ kk, m % 8 = kk := ⟨_, rfl⟩
    obtain ⟨q, hq⟩ : ∃ q, m / 8 = q := ⟨_, rfl⟩
    have hk8 : kk < 8 := by omega
    have hq62 : q ≤ 1152921504606846976 := by omega
    have k1 : (m : Int) % 8 = (kk : Int) := by omega
    have k2 : (m : Int).tmod 8 = (kk : Int) := by rw [Int.tmod_eq_emod_of_nonneg (by omega)]; exact k1
    have k3 : IntKind.i64.wrap (kk : Int) = (kk : Int) := IntWalk.i64_in _ (by omega)
    have q1 : (m : Int) / 8 = (q : Int) := by omega
    have q2 : (m : Int).tdiv 8 = (q : Int) := by rw [Int.tdiv_eq_ediv_of_nonneg (by omega)]; exact q1
    have q3 : IntKind.i64.wrap (q : Int) = (q : Int) := IntWalk.i64_in _ (by omega)
    have c3 := h.cells.cs.2.2.2.1
    obtain ⟨va, vc, hvv⟩ := owns_slice h.rest.nt
    rw [hvv] at c3
    by_cases h6 : kk = 6
    · subst h6
      have T := Lib.hid (xtick_any (E := E) h hI.flow (by have := hI.age.1; omega) (by omega) h2 h4)
      rw [act_6 hkk]
      clear h hI CM h2 h4 h5 h8 hpl hv hn hg hq62 hkk hq hv0 q1 q2 q3 hk8 hvv c3
      go_enter Tryz.func9, Tryz.ntmps9
      go_wp2_with fail
      refine T.out.mono ?_
      rintro e w9 ⟨rfl, A9, hA⟩
      have HA := Lib.hid hA
      clear hA T
      go_wp2_with fail
      go_returns
      exact ⟨rfl, A9, HA.out⟩
    by_cases h7 : kk = 7
    · subst h7
      have T := Lib.hid (show Calls Tryz.prog 22 #[.pointer (some ⟨xb, 0, none⟩)] w fun e w' => e = .returned (.tuple #[]) ∧ ∃ A', XAt w0 w' xb A' x.begins by
        by_cases hd : x.dn = true
        · exact xbegun_any h hd
        · exact xbegin_any h.pre (by simpa using hd) hg (by omega) h2 h4 h5 h8)
      rw [act_7 hkk]
      clear h hI CM h2 h4 h5 h8 hpl hv hn hg hq62 hkk hq hv0 q1 q2 q3 hk8 hvv c3
      go_enter Tryz.func9, Tryz.ntmps9
      go_wp2_with fail
      refine T.out.mono ?_
      rintro e w9 ⟨rfl, A9, hA⟩
      have HA := Lib.hid hA
      clear hA T
      go_wp2_with fail
      go_returns
      exact ⟨rfl, A9, HA.out⟩
    have h6b : ((kk : Int) == 6) = false := by rw [beq_eq_false_iff_ne]; omega
    have h7b : ((kk : Int) == 7) = false := by rw [beq_eq_false_iff_ne]; omega
    have n6 : m % 8 ≠ 6 := by omega
    have n7 : m % 8 ≠ 7 := by omega
    by_cases hnet : x.net = []
    · rw [act_none n6 n7 hnet]
      rw [hnet] at c3
      generalize (kk : Int) = kI at *
      clear h hI CM h2 h4 h5 h8 hpl hv hn hg hq62 hkk hq hv0 hk8 hvv n6 n7 hnet h6 h7
      go_enter Tryz.func9, Tryz.ntmps9
      go_wp2_with fail
      go_returns
      exact ⟨rfl, A, HX.out⟩
    have hpos : 0 < x.net.length := List.length_pos_iff.2 hnet
    obtain ⟨L, hL⟩ : ∃ L, x.net.length = L := ⟨_, rfl⟩
    obtain ⟨r, hr⟩ : ∃ r, q % L = r := ⟨_, rfl⟩
    have hrL : r < L := by rw [← hr]; exact Nat.mod_lt _ (by omega)
    have r1 : (q : Int) % (L : Int) = (r : Int) := by rw [← hr]; simp
    have r2 : (q : Int).tmod (L : Int) = (r : Int) := by rw [Int.tmod_eq_emod_of_nonneg (by omega)]; exact r1
    have r3 : IntKind.i64.wrap (r : Int) = (r : Int) := IntWalk.i64_in _ (by omega)
    have L0 : ((L : Int) == 0) = false := by rw [beq_eq_false_iff_ne]; omega
    have hMM := hL
    have Ln : ¬ L = 0 := by omega
    rw [hL] at c3
    by_cases h3 : kk < 3
    · have h3I : decide ((kk : Int) < 3) = true := by simp; omega
      have C := Lib.hid (CM x r w A hI h (by omega) (by omega))
      have AC := Lib.hid (act_come (x := x) (v := m) (by omega) hnet)
      rw [hq, hL, hr] at AC
      rw [AC.out]
      generalize (kk : Int) = kI at *
      have hLI : (0 : Int) < L := by omega
      have hne : ((L : Int) == 0) = false := L0
      clear h hI CM h2 h4 h5 h8 hpl hv hn hg hq62 hkk hq hv0 hk8 hvv n6 n7 hnet h6 h7 h3 hr hrL hpos hL hMM AC
      go_enter Tryz.func9, Tryz.ntmps9
      go_wp2_with fail
      refine C.out.mono ?_
      rintro e w9 ⟨rfl, A9, hA⟩
      have HA := Lib.hid hA
      clear hA C
      go_wp2_with fail
      go_returns
      exact ⟨rfl, A9, HA.out⟩
    have h3I : decide ((kk : Int) < 3) = false := by simp; omega
    by_cases h4' : kk = 3
    · subst h4'
      obtain ⟨g, cap, hv2, hc1, hc2⟩ := own_is h.rest.nt (by omega)
      rw [hvv] at hv2
      have X1 := Lib.hid h.drew
      have D := xdel_any x.net w0.heap.size r A.vn w.drew (h.drew.rest.nt) (by omega) (by omega)
      rw [hvv, hL] at D
      have D := Lib.hid D
      have HV := Lib.hid hvv
      rw [hL] at HV
      have AC := Lib.hid (act_lose (x := x) (v := m) hkk hnet)
      rw [hq, hL, hr] at AC
      rw [AC.out]
      have r4 : IntKind.i64.wrap ((r : Int) + 1) = (r : Int) + 1 := IntWalk.i64_in _ (by omega)
      clear h hI CM h2 h4 h5 h8 hpl hv hn hg hq62 hkk hq hv0 hk8 hvv n6 n7 hnet h6 h7 h3 hr hrL hpos hL hMM AC hv2 hc1 hc2
      go_enter Tryz.func9, Tryz.ntmps9
      go_wp2_with fail
      go_region_law (go_simp; go_at_call 25; refine D.out.mono ?_; rintro e w8 ⟨r8, rfl, o8, g8⟩; rw [← HV.out] at g8; have NC := X1.out.netCell g8; have cx8 := NC.2; have fx8 := NC.1; have G8 := Lib.hid g8; have O8 := Lib.hid o8; obtain ⟨va8, vc8, rfl⟩ := owns_slice o8; clear g8 o8 NC)
      all_goals
        go_wp2_with fail
        go_returns
        exact ⟨rfl, _, X1.out.netTo G8.out O8.out⟩
    by_cases h5' : kk = 4
    · subst h5'
      have AC := Lib.hid (act_twice (x := x) (v := m) hkk hnet)
      by_cases h500 : x.net.length < 500
      · have h500I : (L : Int) < 500 := by omega
        have hpr : ∃ p, x.act (m : Int) = { x with net := x.net ++ [p] } ∧ ∃ hrr : r < x.net.length, x.net[r]'hrr = p := by
          refine ⟨x.net[r]'(by omega), ?_, by omega, rfl⟩
          rw [AC.out, dif_pos h500]
          congr 1
          congr 1
          congr 1
          subst hL hr hq
          rfl
        obtain ⟨p, hact, hrr, hpe⟩ := hpr
        rw [hact]
        obtain ⟨g, cap, hv2, hc1, hc2⟩ := own_is h.rest.nt (by omega)
        have HO := h.rest.nt
        rw [hv2] at HO
        have d0 := HO.cellAt (r * 2) (by omega)
        have d1 := HO.cellAt (r * 2 + 1) (by omega)
        rw [(pcells_get x.net r hrr).1, hpe] at d0
        rw [(pcells_get x.net r hrr).2, hpe] at d1
        have c3 := h.cells.cs.2.2.2.1
        rw [hv2, hL] at c3
        have HV := Lib.hid hv2
        have HO := Lib.hid HO
        have HLL := Lib.hid hL
        obtain ⟨i0, hi, hs0, hs1, hs2⟩ := info_parts infoPk
        have HN1 : Hid (x.net.length + 1 ≤ maxLen) := by show _ ≤ _; unfold maxLen; omega
        have HN2 : Hid ((x.net.length + 1) * 24 ≤ 140737488355328) := by show _ ≤ _; omega
        have HS := Lib.hid h.rest.bel.size
        have hrI : (r : Int) < L := by omega
        have hr0 : (0 : Int) ≤ r := by omega
        have hrn : (r : Int).toNat = r := by omega
        have hcl : L ≤ cap := by omega
        have e0 : w.drew.cell? ⟨g, r * 2, none⟩ = some (.string (bs p.1)) := d0
        have e1 : w.drew.cell? ⟨g, r * 2 + 1, none⟩ = some (.bool p.2) := d1
        have e3 : w.drew.cell? ⟨xb, 3, none⟩ = some (.slice (some ⟨g, 0, none⟩) L cap) := c3
        have e4 : (w.alloc (.cells #[.string (bs p.1), .bool p.2] 62)).cell? ⟨xb, 3, none⟩ = some (.slice (some ⟨g, 0, none⟩) L cap) := ((wb_alloc w _).cell (World.block_lt_of_cell? w _ c3)).trans c3
        clear h hI CM h2 h4 h5 h8 hpl hv hn hg hq62 hkk hq hv0 hk8 hvv n6 n7 hnet h6 h7 h3 hr hrL hpos hL hMM AC hv2 hc1 hc2 h500 hact hpe hrr
        go_enter Tryz.func9, Tryz.ntmps9
        go_wp2_with fail
        go_region_law (refine step_append_own rfl (.tmp 82) (.tmp 96) 53 rfl w0.heap.size 62 i0 _ 2 24 Tryz.underlying53 hi hs0 hs1 hs2 rfl (by decide) (.slice (some ⟨g, 0, none⟩) L cap) L _ rfl (by have := HO.out; rw [HLL.out] at this; exact (this.alloc _).drew) ⟨w.heap.size, 0, none⟩ 1 1 [.string (bs p.1), .bool p.2] rfl rfl (two_newsP (heap_alloc_new _ _)) (fun u hu => by simp at hu; rcases hu with rfl | rfl <;> rfl) (by have := HN1.out; rw [HLL.out] at this; exact this) (by have := HN2.out; rw [HLL.out] at this; exact this) (by have := HS.out; simp; omega) ?_; intro v' w5 hown5 hgrow _; have hgrow := grown_undrew hgrow; have gc := HX.out.grow_cell (by rw [HV.out, HLL.out]; exact hgrow); have f5 := gc.1; have k5 := gc.2; have HO5 := Lib.hid hown5; have HG5 := Lib.hid hgrow; obtain ⟨vb, vd, rfl⟩ := owns_slice hown5; clear hown5 hgrow gc)
        all_goals
          go_wp2_with fail
          go_returns
          refine ⟨rfl, _, HX.out.grow (net' := x.net ++ [p]) (by rw [HV.out, HLL.out]; exact HG5.out) ?_⟩
          rw [pcells_append, List.length_append, HLL.out]
          exact HO5.out
      · have h500I : ¬ (L : Int) < 500 := by omega
        rw [AC.out, dif_neg h500]
        clear h hI CM h2 h4 h5 h8 hpl hv hn hg hq62 hkk hq hv0 hk8 hvv n6 n7 hnet h6 h7 h3 hr hrL hpos hL hMM AC h500
        go_enter Tryz.func9, Tryz.ntmps9
        go_wp2_with fail
        go_returns
        exact ⟨rfl, A, HX.out⟩
    · have hk5 : kk = 5 := by omega
      subst hk5
      obtain ⟨p, rr, hpr⟩ : ∃ p rr, x.net = p :: rr := by
        cases e : x.net with
        | nil => exact absurd e hnet
        | cons p rr => exact ⟨p, rr, rfl⟩
      have hpp := hpl p (by rw [hpr]; simp)
      have C := Lib.hid (xturn_any q h hq62 p rr hpr (by omega) hpp.1 hpp.2)
      have AC := Lib.hid (act_turn (x := x) (v := m) hkk hnet)
      rw [hq] at AC
      rw [AC.out]
      have hne : ((L : Int) == 0) = false := L0
      clear h hI CM h2 h4 h5 h8 hpl hv hn hg hq62 hkk hq hv0 hk8 hvv n6 n7 hnet h6 h7 h3 hr hrL hpos hL hMM AC hpr hpp h6b h7b h3I h4' h5' r1 r2 r3
      go_enter Tryz.func9, Tryz.ntmps9
      go_wp2_with fail
      refine C.out.mono ?_
      rintro e w9 ⟨rfl, A9, hA⟩
      have HA := Lib.hid hA
      clear hA C
      go_wp2_with fail
      go_returns
      exact ⟨rfl, A9, HA.out⟩
end
end Go.Proofs.YtdpoalbbcmkceaaGreatDoor
