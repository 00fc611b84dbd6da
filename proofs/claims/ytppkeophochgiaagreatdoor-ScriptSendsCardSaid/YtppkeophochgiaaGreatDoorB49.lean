/- Texts of one proof, one behind the other: ScrSend, ScrPlay, ScrMk. -/
import Derived.Test.YtppkeophochgiaaGreatDoorB45
import Derived.Test.YtppkeophochgiaaGreatDoorB44
import Derived.Test.YtppkeophochgiaaGreatDoorB34
import Derived.Test.YtppkeophochgiaaGreatDoorB47
import Derived.Test.YtppkeophochgiaaGreatDoorB48
import Derived.Lib.SliceRun
import Derived.Test.YtppkeophochgiaaGreatDoorB20
import Derived.Test.YtppkeophochgiaaGreatDoorB22
/- A player's command: send. -/
namespace Go.Proofs.YtppkeophochgiaaGreatDoor
open Go.RowKit
set_option linter.unusedVariables false
theorem nums_nil (ws : List (List UInt8)) : SP.nums (ws.take 0) = some [] := rfl
theorem sx_nil (fr tt : List PF) : sx fr tt [] = XS.start fr tt := by unfold sx; simp only [List.foldl_nil]
section
variable {Q : Guest} {E : Nat → Addr} {w0 w w' : World} {pb k : Nat} {A : PlA} {s : SP}
attribute [local irreducible] SP.send SP.sent sx SP.nums nmL
set_option maxRecDepth 100000 in
set_option maxHeartbeats 12800000 in
theorem psend_any (ws : List (List UInt8)) (v : Value) (h : PlAt Q w0 w pb A s k) (hI : SInv s) (hE : SEnv E w0) (hv : SliceIs w v 1 (strV ws)) (hl : ws.length ≤ 1000) (hw : ∀ x ∈ ws, x.length ≤ 1000) (hlt : ∀ x ∈ ws, ∀ n, nmL 6 x = some n → n ≤ 1000000) :
    Calls Tryz.prog 78 #[.pointer (some ⟨pb, 0, none⟩), v] w (Ans Q E w0 pb k (s.send ws)) := by
  obtain ⟨s0, m0, c0, rfl, hm0, hm1, hm2, g1⟩ := hv.get
  have hm0 : m0 = ws.length := by unfold strV at hm0; simpa using hm0.symm
  subst hm0
  obtain ⟨ca, cb⟩ := h.cs
  have BD : Below w.heap.size w w.drew := Below.drew (Below.refl _ w)
  have h := h.below BD
  have hv := hv.below BD
  have HX := Lib.hid h
  have HI := Lib.hid hI
  have HV := Lib.hid hv
  have HE := Lib.hid (hE.err.below h.bel)
  have HL := Lib.hid (fun (w' : World) (b : Below w.drew.heap.size w.drew w') => hE.lib.below (below_trans' h.bel b))
  have E1 := Lib.hid (fun (w' : World) (b : Below w.drew.heap.size w.drew w') => show w'.cell? ⟨1, 0, none⟩ = some (errv (E 1)) from hE.err.e1.below (below_trans' h.bel b))
  have XN := Lib.hid (xnew_any (E := E) s.fr s.tt A.vf A.vt w.drew (SliceIs.ownedK h.fr) (SliceIs.ownedK h.tt) hI.fr.wf hI.tt.wf HE.out.e2 HE.out.e4 HE.out.e5 HE.out.e8 HE.out.e9)
  have NU := Lib.hid (fun (d : List UInt8) (hd : d ∈ ws) (w' : World) (b : Below w.drew.heap.size w.drew w') => number_any E 6 d w' (HL.out w' b) (by omega) (by have := hw d hd; omega))
  have HLT := Lib.hid hlt
  have Q1 := Lib.hid (fun hx => send_none (s := s) (ws := ws) hx)
  have Q2 := Lib.hid (fun l hx => send_some (s := s) (ws := ws) (l := l) hx)
  have HP := Lib.hid (fun (w' : World) (b : Below w.drew.heap.size w.drew w') (l : List PF) (base : Nat) (r : Value) (hr : w'.ownsRow base 130 2 r l.length (fcells l)) (hb : w.drew.heap.size ≤ base) => (h.below b).setTo hr (Nat.le_trans h.bel.size hb) (h.fresh hr hb))
  have CT := Lib.hid (fun (w' : World) (b : Below w.drew.heap.size w.drew w') => (h.below b).cs)
  have S1 := And.intro h.cs.1.1 h.cs.1.2.1
  obtain ⟨c0', c1', c2', c3'⟩ := ca
  have S0 := And.intro c0' c1'
  clear h hI hE hv g1 hw hlt BD c2' c3' cb
  go_enter Tryz.func78, Tryz.ntmps78
  go_wp2_with fail
  go_region_held3 (fun X => X.cell? ⟨pb, 0, none⟩ = some A.vf ∧ X.cell? ⟨pb, 1, none⟩ = some A.vt) (first | exact S1 | exact S0 | exact S3) ((go_at_call 114; refine XN.out.mono ?_; rintro e w1 ⟨xb, B, rfl, hA⟩; have S3 := And.intro (CT.out _ hA.rest.bel).1.1 (CT.out _ hA.rest.bel).1.2.1))
  have HA := Lib.hid hA
  clear hA XN S0 S1 S3 c0' c1'
  go_wp2_with fail
  go_loopw [9, 10, 11, 29] (fun _ _ _ i wr => ∃ (j : Nat) (l : List Nat) (B' : XA), i = .int .i64 j ∧ j ≤ ws.length ∧ SP.nums (ws.take j) = some l ∧ XAt w.drew wr xb B' (sx s.fr s.tt l)) (fun _ _ _ i _ => ws.length - (intOf i).toNat)
  case atStart => exact ⟨0, [], B, rfl, by omega, nums_nil ws, by rw [sx_nil]; exact HA.out⟩
  case round =>
    obtain ⟨j, l, B', rfl, hj, hn, hA⟩ := hrel
    have HA1 := Lib.hid hA
    have BA := Lib.hid hA.rest.bel
    have hll := nums_len hn
    rw [List.length_take] at hll
    have HN := Lib.hid hn
    clear hA hn HA
    by_cases hlt : j < ws.length
    · have hltI : (j : Int) < ws.length := by omega
      obtain ⟨s0', n0', c0', e1, _, _, _, g1⟩ := (HV.out.below BA.out).get
      cases e1
      obtain ⟨ad, rfl, d0⟩ := g1 _ _ (strV_at ws j hlt)
      have x1 : (0 : Int) ≤ j := by omega
      have x2 : (j : Int).toNat = j := by omega
      have KK := Lib.hid (show j + 1 ≤ ws.length by omega)
      have NU1 := NU.out ws[j] (List.getElem_mem _) wr BA.out
      cases hx : nmL 6 ws[j] with
      | none =>
        have HQ := Lib.hid (Q1.out (nums_none hlt hx))
        simp only [NumIs, hx] at NU1
        have NU2 := Lib.hid NU1
        generalize ws[j] = x at *
        clear hx g1 NU Q1 Q2 HP NU1
        go_wp2_with fail
        refine NU2.out.mono ?_
        rintro e w1 ⟨⟨v, rfl, hv⟩, b1⟩
        have BB := Lib.hid (below_trans' BA.out b1)
        have ce := E1.out _ BB.out
        clear b1 d0
        go_wp2_with fail
        go_quiet (fail)
        go_wp2_with fail
        go_ret2
        rw [HQ.out]
        exact ⟨_, A, k, by rw [bs_nil]; rfl, told_err E _ (by simp), HX.out.below (below_drewN BB.out nq), by omega⟩
      | some n =>
        have hn6 := HLT.out ws[j] (List.getElem_mem _) n hx
        have NT := Lib.hid (nums_take hlt HN.out hx)
        simp only [NumIs, hx] at NU1
        have NU2 := Lib.hid NU1
        have DO := Lib.hid (fun (w' : World) (B' : XA) (h : XAt w.drew w' xb B' (sx s.fr s.tt l)) => sx_do (E := E) n (by omega) HI.out.fr HI.out.tt (by omega) HE.out h)
        generalize ws[j] = x at *
        clear hx g1 NU Q1 Q2 HP NU1 HN
        go_wp2_with fail
        refine NU2.out.mono ?_
        rintro e w1 ⟨⟨v, rfl, hv⟩, b1⟩
        obtain rfl := hv n rfl
        have DO1 := Lib.hid (DO.out _ _ (HA1.out.below b1))
        clear b1 d0 DO HA1 hv
        go_wp2_with fail
        refine DO1.out.mono ?_
        rintro e w2 ⟨rfl, B2, hA2⟩
        have HA2 := Lib.hid hA2
        clear hA2 DO1
        go_wp2_with fail
        go_roundw
        case rel => exact ⟨j + 1, l ++ [n], B2, by go_num, KK.out, NT.out, HA2.out⟩
        case measure => have := KK.out; simp [intOf]; omega
    · have hltI : ¬ (j : Int) < ws.length := by omega
      obtain rfl : j = ws.length := by omega
      have hn := HN.out
      rw [List.take_length] at hn
      have HQ := Lib.hid (Q2.out l hn)
      have FN := Lib.hid (sx_fin (E := E) HI.out.fr HI.out.tt (by omega) HE.out HA1.out)
      have SM := Lib.hid (sent_law HI.out.fr HI.out.tt l).1
      have TO := Lib.hid (fun (w' : World) (B' : XA) (h : XAt w.drew w' xb B' (XS.fin turnsN (sx s.fr s.tt l))) => xto_any h (by have := SM.out.wf.few; rw [sent_sx] at this; omega))
      clear hn HN Q1 Q2 NU HA1
      go_wp2_with fail
      refine FN.out.mono ?_
      rintro e w2 ⟨rfl, B2, hA2⟩
      have BA2 := Lib.hid hA2.rest.bel
      have TO1 := Lib.hid (TO.out _ _ hA2)
      clear hA2 FN TO
      go_wp2_with fail
      refine TO1.out.mono ?_
      rintro e w3 ⟨r, rfl, hr, b3⟩
      have BA3 := Lib.hid (below_trans' BA2.out b3)
      have P3 := Lib.hid (HP.out _ BA3.out (SP.sent s.fr s.tt l) _ r (by rw [sent_sx]; exact hr) BA2.out.size)
      obtain ⟨⟨k0, k1, k2, k3⟩, kf⟩ := CT.out _ BA3.out
      obtain ⟨ra, rc, rfl⟩ := owns_slice hr
      clear hr b3 TO1 HP k0 k2 k3
      go_wp2_with fail
      go_ret2
      rw [HQ.out]
      exact ⟨_, _, k, by unfold txDone bs; rfl, told_nil E _, P3.out, by omega⟩
end
end Go.Proofs.YtppkeophochgiaaGreatDoor
/- A line is played. -/
namespace Go.Proofs.YtppkeophochgiaaGreatDoor
open Go.RowKit
set_option linter.unusedVariables false
theorem add_zero'' (a : Addr) : a.add 0 = a := by obtain ⟨b, o, s⟩ := a; unfold Addr.add; cases s <;> rfl
theorem sdrop1 {P : Program} {w : World} {T : TypeId} {s : Option Addr} {n c : Nat} {xs : List Value} (hu : P.underlying T = some (.slice (P.elem T))) (hz : ∀ w' : World, (sizeOf (P.elem T)).run P w' = .ok 1 w') (h : SliceIs w (.slice s n c) 1 xs) (k : Nat) (hk : k ≤ n) :
    ∃ sH, (∀ w' : World, (Instr.slice T (.slice s n c) (some (.int .i64 k)) none none).run P w' = .ok (.slice sH (n - k) (c - k)) w') ∧ SliceIs w (.slice sH (n - k) (c - k)) 1 (xs.drop k) := by
  obtain ⟨s', n', c', e, hn, h1, h2, hg⟩ := h.get
  cases e
  refine ⟨if c = k then s else s.map (·.add (k * 1)), fun w' => ?_, ?_⟩
  · rw [run_slice_l w' T s n c hu .i64 k (by omega) (by omega), hz]
    simp only [Result.andThen, sliced, Int.toNat_natCast]
  · rcases s with _ | a
    · rcases h with ⟨h, rfl⟩ | ⟨a, _, _, h, _⟩
      · cases h
        obtain rfl : k = 0 := by omega
        exact .inl ⟨by simp, rfl⟩
      · cases h
    · by_cases hck : c = k
      · rw [if_pos hck]
        refine .inr ⟨a, n - k, c - k, rfl, by omega, by unfold maxLen at *; omega, by rw [List.length_drop]; omega, fun i u hi => ?_⟩
        rw [List.getElem?_drop] at hi
        have := (List.getElem?_eq_some_iff.1 hi).1
        omega
      · rw [if_neg hck, Option.map_some]
        refine .inr ⟨_, n - k, c - k, rfl, by omega, by unfold maxLen at *; omega, by rw [List.length_drop]; omega, fun i u hi => ?_⟩
        rw [List.getElem?_drop] at hi
        obtain ⟨a', e, h3⟩ := hg (k + i) u hi
        cases e
        rw [Nat.mul_one, Go.Deep.add_add]
        exact h3
theorem zeroCmd (w : World) : (zeroValue 117).run Tryz.prog w = .ok (.agg #[.int .i64 0, .nilFunc]) w := by kernel_rfl
/-- the table, behind its call -/
theorem cmdsB_any (w : World) : Calls Tryz.prog 51 #[] w fun e w' => ∃ B, e = .returned (.map (some B)) ∧ w'.heap[B]? = some (.map cmEs.toArray 11) ∧ Below w.heap.size w w' := by
  refine (cmds_any w).mono ?_
  rintro e w' ⟨rfl, rfl⟩
  exact ⟨_, rfl, heap_alloc_new w _, wb_alloc w _⟩
theorem cm_look {w : World} {B : Nat} (h : w.heap[B]? = some (.map cmEs.toArray 11)) (x : List UInt8) :
    (Instr.lookup 119 (.map (some B)) (.string (bs x)) true).run Tryz.prog w = .ok (.tuple #[((cmdOf x).map Cmd.val).getD (.agg #[.int .i64 0, .nilFunc]), .bool (cmdOf x).isSome]) w := by
  rw [run_raw_look _ 9 117 B 11 cmEs.toArray (bs x) _ Tryz.underlying119 Tryz.underlying9 h (by simpa using cm_keys) (zeroCmd w)]
  simp only [cm_find]
  cases cmdOf x <;> rfl
section
variable {Q : Guest} {E : Nat → Addr} {w0 w w' : World} {pb k : Nat} {A : PlA} {s : SP}
theorem splC_len' (c : UInt8) (l : List UInt8) : (splC c l).length ≤ l.length + 1 := by
  rw [splC_len]
  have := List.count_le_length (a := c) (l := l)
  omega
theorem lit_sliceP {w : World} {b n : Nat} {cs : Array Value} {t : TypeId} {vals : List Value} (k : Nat) (h : w.heap[b]? = some (.cells cs t (0, 0))) (hc : cs.toList = vals) (hn : vals.length = n * k) (hm : n ≤ 1000000) : SliceIs w (.slice (some ⟨b, 0, none⟩) n n) k vals := by
  refine .inr ⟨⟨b, 0, none⟩, n, n, rfl, Nat.le_refl _, by unfold maxLen; omega, hn, fun i u hu => ?_⟩
  subst hc
  have : w.cell? ⟨b, i, none⟩ = some u := by simp only [World.cell?, h]; simpa using hu
  have e : (⟨b, 0, none⟩ : Addr).add i = ⟨b, i, none⟩ := by simp [Addr.add]; omega
  rw [e]; exact this
theorem splC_cons (l : List UInt8) : ∃ x r, splC 32 l = x :: r := by
  cases e : splC 32 l with
  | nil => have := splC_len 32 l; rw [e] at this; simp at this
  | cons x r => exact ⟨x, r, rfl⟩
attribute [local irreducible] SP.wPut SP.put SP.does cmdOf splC
set_option maxRecDepth 100000 in
set_option maxHeartbeats 12800000 in
theorem pplay_put (line : List UInt8) (h : PlAt Q w0 w pb A s k) (hI : SInv s) (hE : SEnv E w0) (hl : line.length ≤ 200) (hp : SP.wPut.isPrefixOf line = true) :
    Calls Tryz.prog 22 #[.pointer (some ⟨pb, 0, none⟩), .string (bs line)] w (Ans Q E w0 pb k (s.put (line.drop 4))) := by
  have CU := Lib.hid (cutput_any line w (by omega))
  rw [hp] at CU
  simp only [if_true] at CU
  have PU := Lib.hid (pput_any (line.drop 4) h hI hE (by rw [List.length_drop]; omega))
  clear h hI hE hp
  go_enter Tryz.func22, Tryz.ntmps22
  go_wp2_with fail
  refine CU.out.mono ?_
  rintro e w1 ⟨rfl, rfl⟩
  go_wp2_with fail
  refine PU.out.mono ?_
  rintro e w2 ⟨r, A', k', rfl, t1, t2, t3⟩
  have T1 := Lib.hid t1
  have T2 := Lib.hid t2
  have T3 := Lib.hid t3
  clear t1 t2 t3
  go_wp2_with fail
  go_ret2
  exact ⟨r, A', k', rfl, T1.out, T2.out, T3.out⟩
set_option maxRecDepth 100000 in
set_option maxHeartbeats 25600000 in
/-- a line that is no putting, of a word that is no command -/
theorem pplay_none (line x : List UInt8) (r : List (List UInt8)) (h : PlAt Q w0 w pb A s k) (hI : SInv s) (hE : SEnv E w0) (hl : line.length ≤ 200) (hp : SP.wPut.isPrefixOf line = false) (hs : splC 32 line = x :: r) (hc : cmdOf x = none) :
    Calls Tryz.prog 22 #[.pointer (some ⟨pb, 0, none⟩), .string (bs line)] w (Ans Q E w0 pb k (s, [], 1)) := by
  have CU := Lib.hid (cutput_any line w (by omega))
  rw [hp] at CU
  simp only [Bool.false_eq_true, if_false] at CU
  have SPL := ssplit_any E 32 ⟨#[32]⟩ (by unfold bs; rfl) line w (by omega) (hE.lib.below h.bel)
  have SLN := splC_len' 32 line
  rw [hs] at SPL SLN
  have SP1 := Lib.hid SPL
  have HX := Lib.hid h
  have E1 := Lib.hid (fun (w' : World) (b : Below w.heap.size w w') => show w'.cell? ⟨1, 0, none⟩ = some (errv (E 1)) from hE.err.e1.below (below_trans' h.bel b))
  have HB := Lib.hid (wb_alloc w (.cells ((x :: r).map fun x => Value.string (bs x)).toArray 9))
  have hc0 : (w.alloc (.cells ((x :: r).map fun x => Value.string (bs x)).toArray 9)).cell? ⟨w.heap.size, 0, none⟩ = some (.string (bs x)) := by simp
  have LK := Lib.hid (fun (w' : World) (B : Nat) (h : w'.heap[B]? = some (.map cmEs.toArray 11)) => cm_look h x)
  have hcs : (cmdOf x).isSome = false := by rw [hc]; rfl
  rw [hcs, hc] at LK
  simp only [Option.map_none, Option.getD_none] at LK
  have hn0 : (0 : Int) < ((x :: r).length : Int) := by simp only [List.length_cons]; omega
  have hnr : (((x :: r).length : Nat) : Int) - 1 = (r.length : Nat) := by simp only [List.length_cons]; omega
  have hn2 : (x :: r).length ≤ 1000 := by omega
  generalize hO : (Obj.cells ((x :: r).map fun x => Value.string (bs x)).toArray 9) = O at *
  generalize (x :: r).length = n at *
  have hwn : IntKind.i64.wrap ((n : Int) - 1) = (n : Int) - 1 := IntWalk.i64_in _ (by omega)
  clear h hI hE hp hs hc hcs SPL hO hnr SLN
  go_enter Tryz.func22, Tryz.ntmps22
  go_wp2_with fail
  refine CU.out.mono ?_
  rintro e w1 ⟨rfl, rfl⟩
  go_wp2_with fail
  refine SP1.out.mono ?_
  rintro e w2 ⟨rfl, rfl⟩
  generalize hA : w.heap.size = a0 at hc0
  generalize w.alloc O = W at *
  have hn1 : 0 < n := by omega
  have BD := Lib.hid (Below.drew (Below.refl W.heap.size W))
  have KS := Lib.hid (fun (X : World) (b : Below W.heap.size W X) => show X.cell? ⟨a0, 0, none⟩ = some (.string (bs x)) from (b.cell (World.block_lt_of_cell? W _ hc0)).trans hc0)
  have AL := Lib.hid (fun (X : World) (o : Obj) (b : Below W.heap.size W X) => b.alloc b.size o)
  have BA := Lib.hid (AL.out _ (.cells #[.int .i64 0, .nilFunc] 117) BD.out)
  have BXF := Lib.hid (fun (X : World) (b : Below (W.alloc (.cells #[.int .i64 0, .nilFunc] 117)).heap.size (W.alloc (.cells #[.int .i64 0, .nilFunc] 117)) X) => show X.heap[W.heap.size]? = some (.cells #[.int .i64 0, .nilFunc] 117 (0, 0)) from (b.block _ (by simp)).trans (heap_alloc_new W _))
  have BXC := Lib.hid (fun (X : World) (hb : X.heap[W.heap.size]? = some (.cells #[.int .i64 0, .nilFunc] 117 (0, 0))) => (show X.cell? ⟨W.heap.size, 0, none⟩ = some (.int .i64 0) ∧ X.cell? ⟨W.heap.size, 1, none⟩ = some .nilFunc ∧ X.frozen? ⟨W.heap.size, 0, none⟩ = false ∧ X.frozen? ⟨W.heap.size, 1, none⟩ = false from by simp [World.cell?, World.frozen?, hb]))
  have BA2 := Lib.hid (Below.drew (AL.out W (.cells #[.int .i64 0, .nilFunc] 117) (Below.refl _ _)))
  have BA3 := Lib.hid (AL.out W (.cells #[.int .i64 0, .nilFunc] 117) (Below.refl _ _))
  have DS := Lib.hid (fun (X : World) (u v : Value) (b : Below W.heap.size W X) => ((b.setCell (p := ⟨W.heap.size, 0, none⟩) (Nat.le_refl _) u).setCell (p := ⟨W.heap.size, 1, none⟩) (Nat.le_refl _) v))
  have S0 := hc0
  have S1 := KS.out _ BD.out
  have S2 := KS.out _ BA.out
  have hst : ∀ (a : Addr) (m : Mode) (w : World), Sem.run Tryz.prog (store a (.nilFunc) m) w = stored Tryz.prog w a (.nilFunc) m := fun a m w => run_store _ _ _ _ m rfl
  go_wp2_with fail
  go_region_held3 (fun X => X.cell? ⟨a0, 0, none⟩ = some (.string (bs x))) (first | exact S0 | exact S1 | exact S2 | exact KS.out _ (by assumption) | exact KS.out _ (AL.out _ _ (by assumption)) | exact KS.out _ (DS.out _ _ _ (by assumption)))
    ((go_at_call 51; refine (cmdsB_any _).mono ?_; rintro e w1 ⟨B, rfl, hB, b1⟩; have b2 := below_trans' (by first | exact BD.out | exact BA.out | exact BA2.out | exact BA3.out) b1; have lk1 := LK.out _ B hB; have lk2 := LK.out _ B (((wb_alloc w1 (.cells #[.int .i64 0, .nilFunc] 117)).block _ (lt_of_block hB)).trans hB); try (have hbx := BXF.out w1 ⟨b1.os, b1.tape, b1.output, b1.size, b1.block⟩; have hz := BXC.out w1 hbx; have g1 := hz.1; have g2 := hz.2.1; have g3 := hz.2.2.1; have g4 := hz.2.2.2; have HBX := Lib.hid hbx; clear hz hbx)))
  all_goals
    clear S0 S1 S2 hst
    have W1 := Lib.hid (below_trans' HB.out (AL.out w1 (.cells #[.int .i64 0, .nilFunc] 117) b2))
    have W2 := Lib.hid (below_trans' HB.out (DS.out w1 (.int .i64 0) .nilFunc b2))
    have ce1 := E1.out _ W1.out
    have ce2 := E1.out _ W2.out
    go_wp2_with fail
    go_quiet (fail)
    go_wp2_with fail
    go_ret2
    exact ⟨_, A, k, by rw [bs_nil]; rfl, told_err E _ (by simp), (by first | exact HX.out.below (below_drewN W1.out nq) | exact HX.out.below (below_drewN W2.out nq)), by omega⟩
set_option maxRecDepth 100000 in
set_option maxHeartbeats 25600000 in
/-- of a command with another number of words -/
theorem pplay_bad (line x : List UInt8) (r : List (List UInt8)) (h : PlAt Q w0 w pb A s k) (hI : SInv s) (hE : SEnv E w0) (hl : line.length ≤ 200) (hp : SP.wPut.isPrefixOf line = false) (hs : splC 32 line = x :: r) (z : Int) (fn : Nat) (hc : (cmdOf x).map Cmd.val = some (.agg #[.int .i64 z, .func (.func fn) #[] #[]])) (hz0 : 0 ≤ z) (hz1 : z ≠ (r.length : Nat)) :
    Calls Tryz.prog 22 #[.pointer (some ⟨pb, 0, none⟩), .string (bs line)] w (Ans Q E w0 pb k (s, [], 1)) := by
  have CU := Lib.hid (cutput_any line w (by omega))
  rw [hp] at CU
  simp only [Bool.false_eq_true, if_false] at CU
  have SPL := ssplit_any E 32 ⟨#[32]⟩ (by unfold bs; rfl) line w (by omega) (hE.lib.below h.bel)
  have SLN := splC_len' 32 line
  rw [hs] at SPL SLN
  have SP1 := Lib.hid SPL
  have HX := Lib.hid h
  have E1 := Lib.hid (fun (w' : World) (b : Below w.heap.size w w') => show w'.cell? ⟨1, 0, none⟩ = some (errv (E 1)) from hE.err.e1.below (below_trans' h.bel b))
  have HB := Lib.hid (wb_alloc w (.cells ((x :: r).map fun x => Value.string (bs x)).toArray 9))
  have hc0 : (w.alloc (.cells ((x :: r).map fun x => Value.string (bs x)).toArray 9)).cell? ⟨w.heap.size, 0, none⟩ = some (.string (bs x)) := by simp
  have LK := Lib.hid (fun (w' : World) (B : Nat) (h : w'.heap[B]? = some (.map cmEs.toArray 11)) => cm_look h x)
  have hcs : (cmdOf x).isSome = true := by cases e : cmdOf x with | none => rw [e] at hc; cases hc | some c => rfl
  rw [hcs, hc] at LK
  simp only [Option.getD_some] at LK
  have hn0 : (0 : Int) < ((x :: r).length : Int) := by simp only [List.length_cons]; omega
  have hnr : (((x :: r).length : Nat) : Int) - 1 = (r.length : Nat) := by simp only [List.length_cons]; omega
  have hzb : (z == ((((x :: r).length : Nat) : Int) - 1)) = false := by rw [hnr]; exact beq_false_of_ne hz1
  have hzc : (z != ((((x :: r).length : Nat) : Int) - 1)) = true := by rw [hnr]; exact bne_iff_ne.2 hz1
  have hn2 : (x :: r).length ≤ 1000 := by omega
  generalize hO : (Obj.cells ((x :: r).map fun x => Value.string (bs x)).toArray 9) = O at *
  generalize (x :: r).length = n at *
  have hwn : IntKind.i64.wrap ((n : Int) - 1) = (n : Int) - 1 := IntWalk.i64_in _ (by omega)
  clear h hI hE hp hs hc hcs SPL hO hnr SLN hz1
  go_enter Tryz.func22, Tryz.ntmps22
  go_wp2_with fail
  refine CU.out.mono ?_
  rintro e w1 ⟨rfl, rfl⟩
  go_wp2_with fail
  refine SP1.out.mono ?_
  rintro e w2 ⟨rfl, rfl⟩
  generalize hA : w.heap.size = a0 at hc0
  generalize w.alloc O = W at *
  have hn1 : 0 < n := by omega
  have BD := Lib.hid (Below.drew (Below.refl W.heap.size W))
  have KS := Lib.hid (fun (X : World) (b : Below W.heap.size W X) => show X.cell? ⟨a0, 0, none⟩ = some (.string (bs x)) from (b.cell (World.block_lt_of_cell? W _ hc0)).trans hc0)
  have AL := Lib.hid (fun (X : World) (o : Obj) (b : Below W.heap.size W X) => b.alloc b.size o)
  have BA := Lib.hid (AL.out _ (.cells #[.int .i64 0, .nilFunc] 117) BD.out)
  have BXF := Lib.hid (fun (X : World) (b : Below (W.alloc (.cells #[.int .i64 0, .nilFunc] 117)).heap.size (W.alloc (.cells #[.int .i64 0, .nilFunc] 117)) X) => show X.heap[W.heap.size]? = some (.cells #[.int .i64 0, .nilFunc] 117 (0, 0)) from (b.block _ (by simp)).trans (heap_alloc_new W _))
  have BXC := Lib.hid (fun (X : World) (hb : X.heap[W.heap.size]? = some (.cells #[.int .i64 0, .nilFunc] 117 (0, 0))) => (show X.cell? ⟨W.heap.size, 0, none⟩ = some (.int .i64 0) ∧ X.cell? ⟨W.heap.size, 1, none⟩ = some .nilFunc ∧ X.frozen? ⟨W.heap.size, 0, none⟩ = false ∧ X.frozen? ⟨W.heap.size, 1, none⟩ = false from by simp [World.cell?, World.frozen?, hb]))
  have BA2 := Lib.hid (Below.drew (AL.out W (.cells #[.int .i64 0, .nilFunc] 117) (Below.refl _ _)))
  have BA3 := Lib.hid (AL.out W (.cells #[.int .i64 0, .nilFunc] 117) (Below.refl _ _))
  have DS := Lib.hid (fun (X : World) (u v : Value) (b : Below W.heap.size W X) => ((b.setCell (p := ⟨W.heap.size, 0, none⟩) (Nat.le_refl _) u).setCell (p := ⟨W.heap.size, 1, none⟩) (Nat.le_refl _) v))
  have S0 := hc0
  have S1 := KS.out _ BD.out
  have S2 := KS.out _ BA.out
  have hst : ∀ (a : Addr) (m : Mode) (w : World), Sem.run Tryz.prog (store a (.func (.func fn) #[] #[]) m) w = stored Tryz.prog w a (.func (.func fn) #[] #[]) m := fun a m w => run_store _ _ _ _ m rfl
  go_wp2_with fail
  go_region_held3 (fun X => X.cell? ⟨a0, 0, none⟩ = some (.string (bs x))) (first | exact S0 | exact S1 | exact S2 | exact KS.out _ (by assumption) | exact KS.out _ (AL.out _ _ (by assumption)) | exact KS.out _ (DS.out _ _ _ (by assumption)))
    ((go_at_call 51; refine (cmdsB_any _).mono ?_; rintro e w1 ⟨B, rfl, hB, b1⟩; have b2 := below_trans' (by first | exact BD.out | exact BA.out | exact BA2.out | exact BA3.out) b1; have lk1 := LK.out _ B hB; have lk2 := LK.out _ B (((wb_alloc w1 (.cells #[.int .i64 0, .nilFunc] 117)).block _ (lt_of_block hB)).trans hB); try (have hbx := BXF.out w1 ⟨b1.os, b1.tape, b1.output, b1.size, b1.block⟩; have hz := BXC.out w1 hbx; have g1 := hz.1; have g2 := hz.2.1; have g3 := hz.2.2.1; have g4 := hz.2.2.2; have HBX := Lib.hid hbx; clear hz hbx)))
  · have hx : (w1.alloc (.cells #[.int .i64 z, .func (.func fn) #[] #[]] 117)).heap[w1.heap.size]? = some (.cells #[.int .i64 z, .func (.func fn) #[] #[]] 117 (0, 0)) := heap_alloc_new w1 _
    have B5 := Lib.hid (AL.out w1 (.cells #[.int .i64 z, .func (.func fn) #[] #[]] 117) b2)
    generalize w1.alloc (.cells #[.int .i64 z, .func (.func fn) #[] #[]] 117) = W5 at *
    generalize w1.heap.size = bx at *
    obtain ⟨k1, k2⟩ : W5.cell? ⟨bx, 0, none⟩ = some (.int .i64 z) ∧ W5.cell? ⟨bx, 1, none⟩ = some (.func (.func fn) #[] #[]) := by constructor <;> simp [World.cell?, hx]
    have B6 := Lib.hid (below_trans' HB.out B5.out)
    have ce := E1.out _ B6.out
    clear hx S0 S1 S2 hst
    go_wp2_with fail
    go_quiet (fail)
    go_wp2_with fail
    go_ret2
    exact ⟨_, A, k, by rw [bs_nil]; rfl, told_err E _ (by simp), HX.out.below (below_drewN B6.out nq), by omega⟩
  · have hx : (w1.alloc (.cells #[.int .i64 z, .func (.func fn) #[] #[]] 117)).heap[w1.heap.size]? = some (.cells #[.int .i64 z, .func (.func fn) #[] #[]] 117 (0, 0)) := heap_alloc_new w1 _
    have B5 := Lib.hid (AL.out w1 (.cells #[.int .i64 z, .func (.func fn) #[] #[]] 117) b2)
    generalize w1.alloc (.cells #[.int .i64 z, .func (.func fn) #[] #[]] 117) = W5 at *
    generalize w1.heap.size = bx at *
    obtain ⟨k1, k2⟩ : W5.cell? ⟨bx, 0, none⟩ = some (.int .i64 z) ∧ W5.cell? ⟨bx, 1, none⟩ = some (.func (.func fn) #[] #[]) := by constructor <;> simp [World.cell?, hx]
    have B6 := Lib.hid (below_trans' HB.out B5.out)
    have ce := E1.out _ B6.out
    clear hx S0 S1 S2 hst
    go_wp2_with fail
    go_quiet (fail)
    go_wp2_with fail
    go_ret2
    exact ⟨_, A, k, by rw [bs_nil]; rfl, told_err E _ (by simp), HX.out.below (below_drewN B6.out nq), by omega⟩
  · have hx : ((w1.setCell ⟨W.heap.size, 0, none⟩ (.int .i64 z)).setCell ⟨W.heap.size, 1, none⟩ (.func (.func fn) #[] #[])).heap[W.heap.size]? = some (.cells #[.int .i64 z, .func (.func fn) #[] #[]] 117 (0, 0)) := by have h1 := set_at (k := 0) (u := .int .i64 z) HBX.out; have h2 := set_at (k := 1) (u := .func (.func fn) #[] #[]) h1; simpa using h2
    have B5 := Lib.hid (DS.out w1 (.int .i64 z) (.func (.func fn) #[] #[]) b2)
    generalize (w1.setCell ⟨W.heap.size, 0, none⟩ (.int .i64 z)).setCell ⟨W.heap.size, 1, none⟩ (.func (.func fn) #[] #[]) = W5 at *
    generalize W.heap.size = bx at hx ⊢
    obtain ⟨k1, k2⟩ : W5.cell? ⟨bx, 0, none⟩ = some (.int .i64 z) ∧ W5.cell? ⟨bx, 1, none⟩ = some (.func (.func fn) #[] #[]) := by constructor <;> simp [World.cell?, hx]
    have B6 := Lib.hid (below_trans' HB.out B5.out)
    have ce := E1.out _ B6.out
    clear hx S0 S1 S2 hst
    go_wp2_with fail
    go_quiet (fail)
    go_wp2_with fail
    go_ret2
    exact ⟨_, A, k, by rw [bs_nil]; rfl, told_err E _ (by simp), HX.out.below (below_drewN B6.out nq), by omega⟩
set_option maxRecDepth 100000 in
set_option maxHeartbeats 25600000 in
/-- of a command that is carried out -/
theorem pplay_ok (line x : List UInt8) (r : List (List UInt8)) (h : PlAt Q w0 w pb A s k) (hI : SInv s) (hE : SEnv E w0) (hl : line.length ≤ 200) (hp : SP.wPut.isPrefixOf line = false) (hs : splC 32 line = x :: r) (z : Int) (fn : Nat) (p : SP × An) (hc : (cmdOf x).map Cmd.val = some (.agg #[.int .i64 z, .func (.func fn) #[] #[]])) (hz : z < 0 ∨ z = (r.length : Nat)) (eg : ∀ args w, (callFunc fn args).run Tryz.prog w = .ok (.enter fn args) w)
    (HC : ∀ (X : World) (v : Value), Below w.heap.size w X → SliceIs X v 1 (strV r) → Calls Tryz.prog fn #[.pointer (some ⟨pb, 0, none⟩), v] X (Ans Q E w0 pb k p)) :
    Calls Tryz.prog 22 #[.pointer (some ⟨pb, 0, none⟩), .string (bs line)] w (Ans Q E w0 pb k p) := by
  have CU := Lib.hid (cutput_any line w (by omega))
  rw [hp] at CU
  simp only [Bool.false_eq_true, if_false] at CU
  have SPL := ssplit_any E 32 ⟨#[32]⟩ (by unfold bs; rfl) line w (by omega) (hE.lib.below h.bel)
  have SLN := splC_len' 32 line
  rw [hs] at SPL SLN
  have SP1 := Lib.hid SPL
  have HX := Lib.hid h
  have E1 := Lib.hid (fun (w' : World) (b : Below w.heap.size w w') => show w'.cell? ⟨1, 0, none⟩ = some (errv (E 1)) from hE.err.e1.below (below_trans' h.bel b))
  have HB := Lib.hid (wb_alloc w (.cells ((x :: r).map fun x => Value.string (bs x)).toArray 9))
  have hc0 : (w.alloc (.cells ((x :: r).map fun x => Value.string (bs x)).toArray 9)).cell? ⟨w.heap.size, 0, none⟩ = some (.string (bs x)) := by simp
  have HSL : SliceIs (w.alloc (.cells ((x :: r).map fun x => Value.string (bs x)).toArray 9)) (.slice (some ⟨w.heap.size, 0, none⟩) (x :: r).length (x :: r).length) 1 (strV (x :: r)) := lit_sliceP 1 (heap_alloc_new w _) (by unfold strV; simp) (by unfold strV; simp) (by omega)
  obtain ⟨sH, SLR, SLI⟩ := sdrop1 (P := Tryz.prog) (T := 22) Tryz.underlying22 (by intro w'; kernel_rfl) HSL 1 (by simp)
  have SLR : ∀ w' : World, (Instr.slice 22 (.slice (some ⟨w.heap.size, 0, none⟩) (x :: r).length (x :: r).length) (some (.int .i64 1)) none none).run Tryz.prog w' = .ok (.slice sH ((x :: r).length - 1) ((x :: r).length - 1)) w' := SLR
  rw [show (strV (x :: r)).drop 1 = strV r by unfold strV; simp] at SLI
  have HSI := Lib.hid SLI
  have LK := Lib.hid (fun (w' : World) (B : Nat) (h : w'.heap[B]? = some (.map cmEs.toArray 11)) => cm_look h x)
  have hcs : (cmdOf x).isSome = true := by cases e : cmdOf x with | none => rw [e] at hc; cases hc | some c => rfl
  rw [hcs, hc] at LK
  simp only [Option.getD_some] at LK
  have hn0 : (0 : Int) < ((x :: r).length : Int) := by simp only [List.length_cons]; omega
  have hnr : (((x :: r).length : Nat) : Int) - 1 = (r.length : Nat) := by simp only [List.length_cons]; omega
  have hz2 : (0 ≤ z → (z == ((((x :: r).length : Nat) : Int) - 1)) = true) := fun h0 => by rw [hnr]; exact beq_iff_eq.2 (by omega)
  have hz3 : (0 ≤ z → (z != ((((x :: r).length : Nat) : Int) - 1)) = false) := fun h0 => by rw [hnr]; simp only [bne_eq_false_iff_eq]; omega
  have hn1' : 1 ≤ (x :: r).length := by simp
  have hn2 : (x :: r).length ≤ 1000 := by omega
  generalize hO : (Obj.cells ((x :: r).map fun x => Value.string (bs x)).toArray 9) = O at *
  generalize (x :: r).length = n at *
  have hwn : IntKind.i64.wrap ((n : Int) - 1) = (n : Int) - 1 := IntWalk.i64_in _ (by omega)
  clear h hI hE hp hs hc hcs SPL hO hnr SLN HSL SLI
  have HCC := Lib.hid HC
  clear HC
  go_enter Tryz.func22, Tryz.ntmps22
  go_wp2_with fail
  refine CU.out.mono ?_
  rintro e w1 ⟨rfl, rfl⟩
  go_wp2_with fail
  refine SP1.out.mono ?_
  rintro e w2 ⟨rfl, rfl⟩
  generalize hA : w.heap.size = a0 at hc0 SLR HSI
  generalize w.alloc O = W at *
  have hn1 : 0 < n := by omega
  have BD := Lib.hid (Below.drew (Below.refl W.heap.size W))
  have KS := Lib.hid (fun (X : World) (b : Below W.heap.size W X) => show X.cell? ⟨a0, 0, none⟩ = some (.string (bs x)) from (b.cell (World.block_lt_of_cell? W _ hc0)).trans hc0)
  have AL := Lib.hid (fun (X : World) (o : Obj) (b : Below W.heap.size W X) => b.alloc b.size o)
  have BA := Lib.hid (AL.out _ (.cells #[.int .i64 0, .nilFunc] 117) BD.out)
  have BXF := Lib.hid (fun (X : World) (b : Below (W.alloc (.cells #[.int .i64 0, .nilFunc] 117)).heap.size (W.alloc (.cells #[.int .i64 0, .nilFunc] 117)) X) => show X.heap[W.heap.size]? = some (.cells #[.int .i64 0, .nilFunc] 117 (0, 0)) from (b.block _ (by simp)).trans (heap_alloc_new W _))
  have BXC := Lib.hid (fun (X : World) (hb : X.heap[W.heap.size]? = some (.cells #[.int .i64 0, .nilFunc] 117 (0, 0))) => (show X.cell? ⟨W.heap.size, 0, none⟩ = some (.int .i64 0) ∧ X.cell? ⟨W.heap.size, 1, none⟩ = some .nilFunc ∧ X.frozen? ⟨W.heap.size, 0, none⟩ = false ∧ X.frozen? ⟨W.heap.size, 1, none⟩ = false from by simp [World.cell?, World.frozen?, hb]))
  have BA2 := Lib.hid (Below.drew (AL.out W (.cells #[.int .i64 0, .nilFunc] 117) (Below.refl _ _)))
  have BA3 := Lib.hid (AL.out W (.cells #[.int .i64 0, .nilFunc] 117) (Below.refl _ _))
  have DS := Lib.hid (fun (X : World) (u v : Value) (b : Below W.heap.size W X) => ((b.setCell (p := ⟨W.heap.size, 0, none⟩) (Nat.le_refl _) u).setCell (p := ⟨W.heap.size, 1, none⟩) (Nat.le_refl _) v))
  have S0 := hc0
  have S1 := KS.out _ BD.out
  have S2 := KS.out _ BA.out
  have hst : ∀ (a : Addr) (m : Mode) (w : World), Sem.run Tryz.prog (store a (.func (.func fn) #[] #[]) m) w = stored Tryz.prog w a (.func (.func fn) #[] #[]) m := fun a m w => run_store _ _ _ _ m rfl
  go_wp2_with fail
  go_region_held3 (fun X => X.cell? ⟨a0, 0, none⟩ = some (.string (bs x))) (first | exact S0 | exact S1 | exact S2 | exact KS.out _ (by assumption) | exact KS.out _ (AL.out _ _ (by assumption)) | exact KS.out _ (DS.out _ _ _ (by assumption)))
    ((go_at_call 51; refine (cmdsB_any _).mono ?_; rintro e w1 ⟨B, rfl, hB, b1⟩; have b2 := below_trans' (by first | exact BD.out | exact BA.out | exact BA2.out | exact BA3.out) b1; have lk1 := LK.out _ B hB; have lk2 := LK.out _ B (((wb_alloc w1 (.cells #[.int .i64 0, .nilFunc] 117)).block _ (lt_of_block hB)).trans hB); try (have hbx := BXF.out w1 ⟨b1.os, b1.tape, b1.output, b1.size, b1.block⟩; have hz := BXC.out w1 hbx; have g1 := hz.1; have g2 := hz.2.1; have g3 := hz.2.2.1; have g4 := hz.2.2.2; have HBX := Lib.hid hbx; clear hz hbx)))
  · have hx : (w1.alloc (.cells #[.int .i64 z, .func (.func fn) #[] #[]] 117)).heap[w1.heap.size]? = some (.cells #[.int .i64 z, .func (.func fn) #[] #[]] 117 (0, 0)) := heap_alloc_new w1 _
    have B5 := Lib.hid (AL.out w1 (.cells #[.int .i64 z, .func (.func fn) #[] #[]] 117) b2)
    generalize w1.alloc (.cells #[.int .i64 z, .func (.func fn) #[] #[]] 117) = W5 at *
    generalize w1.heap.size = bx at *
    obtain ⟨k1, k2⟩ : W5.cell? ⟨bx, 0, none⟩ = some (.int .i64 z) ∧ W5.cell? ⟨bx, 1, none⟩ = some (.func (.func fn) #[] #[]) := by constructor <;> simp [World.cell?, hx]
    have BE := Lib.hid (Below.drew B5.out)
    have HC1 := Lib.hid (HCC.out W5.drew _ (below_trans' HB.out BE.out) (HSI.out.below BE.out))
    have T0 := k2
    have T1 : W5.drew.cell? ⟨bx, 1, none⟩ = some (.func (.func fn) #[] #[]) := k2
    clear hx S0 S1 S2 hst
    rcases hz with hzz | hzz
    all_goals
      first | have hz0 : ¬ (0 : Int) ≤ z := by omega | skip
      try (have hz4 := hz2 (by omega); have hz5 := hz3 (by omega); have hz0 : (0 : Int) ≤ z := by omega)
      clear hz2 hz3 hzz
      go_wp2_with fail
      go_region_law (go_simp; (refine HC1.out.mono ?_; rintro e w6 ⟨r6, A', k', rfl, t1, t2, t3⟩; have TT1 := Lib.hid t1; have TT2 := Lib.hid t2; have TT3 := Lib.hid t3; clear t1 t2 t3))
      all_goals
        go_wp2_with fail
        go_ret2
        exact ⟨r6, A', k', rfl, TT1.out, TT2.out, TT3.out⟩
  · have hx : (w1.alloc (.cells #[.int .i64 z, .func (.func fn) #[] #[]] 117)).heap[w1.heap.size]? = some (.cells #[.int .i64 z, .func (.func fn) #[] #[]] 117 (0, 0)) := heap_alloc_new w1 _
    have B5 := Lib.hid (AL.out w1 (.cells #[.int .i64 z, .func (.func fn) #[] #[]] 117) b2)
    generalize w1.alloc (.cells #[.int .i64 z, .func (.func fn) #[] #[]] 117) = W5 at *
    generalize w1.heap.size = bx at *
    obtain ⟨k1, k2⟩ : W5.cell? ⟨bx, 0, none⟩ = some (.int .i64 z) ∧ W5.cell? ⟨bx, 1, none⟩ = some (.func (.func fn) #[] #[]) := by constructor <;> simp [World.cell?, hx]
    have BE := Lib.hid (Below.drew B5.out)
    have HC1 := Lib.hid (HCC.out W5.drew _ (below_trans' HB.out BE.out) (HSI.out.below BE.out))
    have T0 := k2
    have T1 : W5.drew.cell? ⟨bx, 1, none⟩ = some (.func (.func fn) #[] #[]) := k2
    clear hx S0 S1 S2 hst
    rcases hz with hzz | hzz
    all_goals
      first | have hz0 : ¬ (0 : Int) ≤ z := by omega | skip
      try (have hz4 := hz2 (by omega); have hz5 := hz3 (by omega); have hz0 : (0 : Int) ≤ z := by omega)
      clear hz2 hz3 hzz
      go_wp2_with fail
      go_region_law (go_simp; (refine HC1.out.mono ?_; rintro e w6 ⟨r6, A', k', rfl, t1, t2, t3⟩; have TT1 := Lib.hid t1; have TT2 := Lib.hid t2; have TT3 := Lib.hid t3; clear t1 t2 t3))
      all_goals
        go_wp2_with fail
        go_ret2
        exact ⟨r6, A', k', rfl, TT1.out, TT2.out, TT3.out⟩
  · have hx : ((w1.setCell ⟨W.heap.size, 0, none⟩ (.int .i64 z)).setCell ⟨W.heap.size, 1, none⟩ (.func (.func fn) #[] #[])).heap[W.heap.size]? = some (.cells #[.int .i64 z, .func (.func fn) #[] #[]] 117 (0, 0)) := by have h1 := set_at (k := 0) (u := .int .i64 z) HBX.out; have h2 := set_at (k := 1) (u := .func (.func fn) #[] #[]) h1; simpa using h2
    have B5 := Lib.hid (DS.out w1 (.int .i64 z) (.func (.func fn) #[] #[]) b2)
    generalize (w1.setCell ⟨W.heap.size, 0, none⟩ (.int .i64 z)).setCell ⟨W.heap.size, 1, none⟩ (.func (.func fn) #[] #[]) = W5 at *
    generalize W.heap.size = bx at hx ⊢
    obtain ⟨k1, k2⟩ : W5.cell? ⟨bx, 0, none⟩ = some (.int .i64 z) ∧ W5.cell? ⟨bx, 1, none⟩ = some (.func (.func fn) #[] #[]) := by constructor <;> simp [World.cell?, hx]
    have BE := Lib.hid (Below.drew B5.out)
    have HC1 := Lib.hid (HCC.out W5.drew _ (below_trans' HB.out BE.out) (HSI.out.below BE.out))
    have T0 := k2
    have T1 : W5.drew.cell? ⟨bx, 1, none⟩ = some (.func (.func fn) #[] #[]) := k2
    clear hx S0 S1 S2 hst
    rcases hz with hzz | hzz
    all_goals
      first | have hz0 : ¬ (0 : Int) ≤ z := by omega | skip
      try (have hz4 := hz2 (by omega); have hz5 := hz3 (by omega); have hz0 : (0 : Int) ≤ z := by omega)
      clear hz2 hz3 hzz
      go_wp2_with fail
      go_region_law (go_simp; (refine HC1.out.mono ?_; rintro e w6 ⟨r6, A', k', rfl, t1, t2, t3⟩; have TT1 := Lib.hid t1; have TT2 := Lib.hid t2; have TT3 := Lib.hid t3; clear t1 t2 t3))
      all_goals
        go_wp2_with fail
        go_ret2
        exact ⟨r6, A', k', rfl, TT1.out, TT2.out, TT3.out⟩
end
end Go.Proofs.YtppkeophochgiaaGreatDoor
/- A player's commands: size, mark. -/
namespace Go.Proofs.YtppkeophochgiaaGreatDoor
open Go.RowKit
set_option linter.unusedVariables false
section
variable {Q : Guest} {E : Nat → Addr} {w0 w w' : World} {pb k : Nat} {A : PlA} {s : SP}
attribute [local irreducible] mkOps blks SP.size datOf nmL
set_option maxRecDepth 100000 in
set_option maxHeartbeats 12800000 in
theorem psize_any (n d : List UInt8) (v : Value) (h : PlAt Q w0 w pb A s k) (hI : SInv s) (hE : SEnv E w0) (hv : SliceIs w v 1 [.string (bs n), .string (bs d)]) (hd : d.length ≤ 1000000) :
    Calls Tryz.prog 77 #[.pointer (some ⟨pb, 0, none⟩), v] w (Ans Q E w0 pb k (s.size n d)) := by
  obtain ⟨s0, m0, c0, rfl, hm0, hm1, hm2, g1⟩ := hv.get
  obtain ⟨ad, rfl, d0⟩ := g1 0 _ rfl
  rw [addr0] at d0
  obtain ⟨ad', e', d1⟩ := g1 1 _ rfl
  cases e'
  rw [addr1] at d1
  have hm0 : m0 = 2 := by simpa using hm0.symm
  subst hm0
  have HX := Lib.hid h
  have NU := Lib.hid (number_any E 6 d w (hE.lib.below h.bel) (by omega) (by omega))
  have E1 := Lib.hid (fun (w' : World) (b : Below w.heap.size w w') => show w'.cell? ⟨1, 0, none⟩ = some (errv (E 1)) from hE.err.e1.below (below_trans' h.bel b))
  have CS := Lib.hid (fun (w' : World) (b : Below w.heap.size w w') => (show w'.cell? ⟨pb, 0, none⟩ = some A.vf ∧ w'.cell? ⟨pb, 1, none⟩ = some A.vt from ⟨(h.below b).cs.1.1, (h.below b).cs.1.2.1⟩))
  have D0 := Lib.hid (fun (w' : World) (b : Below w.heap.size w w') => (b.cell (World.block_lt_of_cell? w _ d0)).trans d0)
  have G1 := Lib.hid (fun (w' : World) (b : Below w.heap.size w w') => (show Calls Tryz.prog 103 #[A.vf, .string (bs n)] w' fun e w2 => e = .returned (.tuple #[.string (bs (datOf s.fr n)), .bool (fgetL s.fr n).isSome]) ∧ Below w'.heap.size w' w2 from (by unfold datOf; exact flget_any s.fr A.vf n w' (SliceIs.ownedK (h.below b).fr))))
  have G2 := Lib.hid (fun (w' : World) (b : Below w.heap.size w w') => (show Calls Tryz.prog 103 #[A.vt, .string (bs n)] w' fun e w2 => e = .returned (.tuple #[.string (bs (datOf s.tt n)), .bool (fgetL s.tt n).isSome]) ∧ Below w'.heap.size w' w2 from (by unfold datOf; exact flget_any s.tt A.vt n w' (SliceIs.ownedK (h.below b).tt))))
  have LT := datOf_le hI.tt n
  have LF := datOf_le hI.fr n
  have ON := Lib.hid (fun (z : Int) (hz : z < 1 ∨ 64 < z) (w' : World) (b : Below w.heap.size w w') => of_no E (bs (datOf s.tt n)) z w' (by omega) (hE.err.e2.below (below_trans' h.bel b)))
  have OY := Lib.hid (fun (z : Nat) (hz : ¬ (z < 1 ∨ 64 < z)) (w' : World) => of_yes (bs (datOf s.tt n)) z w' (by rw [bs_size]; omega) (by omega) (by omega))
  have MK := Lib.hid (fun (z : Nat) (hz : ¬ (z < 1 ∨ 64 < z)) (w' : World) (b : Below w.heap.size w w') s1 n1 c1 hl => make_any E s1 n1 c1 (blks z (datOf s.tt n)) (z : Int) (bs (datOf s.fr n)) w' hl (hE.err.e2.below (below_trans' h.bel b)) (hE.err.e8.below (below_trans' h.bel b)) (by rw [blks_chk z _ (by omega) (by omega) (by omega)]) (by rw [bs_size]; omega))
  have IT := Lib.hid (fun (x : Nat) (hx : x ≤ 1000000) (w' : World) (b : Below w.heap.size w w') => itoa_any E x w' (hE.lib.below (below_trans' h.bel b)) (by omega))
  have CO := Lib.hid (fun (z : Nat) => show costN (mkOps (blks z (datOf s.tt n)) z (datOf s.fr n)) ≤ 1000 from by have := mkOps_cost (blks z (datOf s.tt n)) z (datOf s.fr n); omega)
  have LO := Lib.hid (fun (z : Nat) (hz : ¬ (z < 1 ∨ 64 < z)) => show (mkOps (blks z (datOf s.tt n)) z (datOf s.fr n)).length ≤ 100000 from by have := (mkOps_ok (blks z (datOf s.tt n)) z (datOf s.fr n) (by omega) (by rw [blks_len]; have := cnt_le z (datOf s.tt n).length (by omega); omega)).1; omega)
  clear h hE hv g1 hI LT LF
  have QOK := Lib.hid (fun (z : Nat) (h1 : nmL 6 d = some z) (h2 : ¬ (z < 1 ∨ 64 < z)) => size_ok (s := s) (n := n) h1 h2)
  generalize datOf s.tt n = dt at *
  generalize datOf s.fr n = df at *
  cases hx : nmL 6 d with
  | none =>
    rw [size_none hx]
    simp only [NumIs, hx] at NU
    clear hx G1 G2 ON OY MK IT CO LO QOK
    go_enter Tryz.func77, Tryz.ntmps77
    go_wp2_with fail
    refine NU.out.mono ?_
    rintro e w1 ⟨⟨v, rfl, hv⟩, b1⟩
    have ce := E1.out _ b1
    go_wp2_with fail
    go_quiet (fail)
    go_wp2_with fail
    go_ret2
    exact ⟨_, A, k, by rw [bs_nil]; rfl, told_err E _ (by simp), HX.out.below (below_drewN b1 nq), by omega⟩
  | some z =>
    simp only [NumIs, hx] at NU
    by_cases hz : z < 1 ∨ 64 < z
    · rw [size_bad hx hz]
      have ON := Lib.hid (ON.out z (by omega))
      clear hx OY MK IT CO LO QOK
      go_enter Tryz.func77, Tryz.ntmps77
      go_wp2_with fail
      refine NU.out.mono ?_
      rintro e w1 ⟨⟨v, rfl, hv⟩, b1⟩
      obtain rfl := hv z rfl
      have B1 := Lib.hid b1
      have BDB1 := Lib.hid (Below.drew B1.out)
      have GG := Lib.hid (G1.out _ BDB1.out)
      have S0 := And.intro (CS.out _ B1.out).1 (D0.out _ B1.out)
      have S1 := And.intro (CS.out _ BDB1.out).1 (D0.out _ BDB1.out)
      have KS := Lib.hid (fun (W : World) (bb : Below w1.drew.heap.size w1.drew W) => And.intro (CS.out _ (below_trans' BDB1.out bb)).1 (D0.out _ (below_trans' BDB1.out bb)))
      clear b1 NU hv
      go_wp2_with fail
      go_region_held3 (fun X => X.cell? ⟨pb, 0, none⟩ = some A.vf ∧ X.cell? ad = some (.string (bs n))) (first | exact S1 | exact S0 | exact KS.out _ (by assumption)) ((go_at_call 103; refine GG.out.mono ?_; rintro e w2 ⟨rfl, b⟩))
      have B2 := Lib.hid (below_trans' BDB1.out b)
      clear b S0 S1 KS GG
      have BDB2 := Lib.hid (Below.drew B2.out)
      have GG := Lib.hid (G2.out _ BDB2.out)
      have S0 := And.intro (CS.out _ B2.out).2 (D0.out _ B2.out)
      have S1 := And.intro (CS.out _ BDB2.out).2 (D0.out _ BDB2.out)
      have KS := Lib.hid (fun (W : World) (bb : Below w2.drew.heap.size w2.drew W) => And.intro (CS.out _ (below_trans' BDB2.out bb)).2 (D0.out _ (below_trans' BDB2.out bb)))
      go_wp2_with fail
      go_region_held3 (fun X => X.cell? ⟨pb, 1, none⟩ = some A.vt ∧ X.cell? ad = some (.string (bs n))) (first | exact S1 | exact S0 | exact KS.out _ (by assumption)) ((go_at_call 103; refine GG.out.mono ?_; rintro e w3 ⟨rfl, b⟩))
      have B3 := Lib.hid (below_trans' BDB2.out b)
      clear b S0 S1 KS GG
      have ON1 := Lib.hid (ON.out _ B3.out)
      go_wp2_with fail
      refine ON1.out.mono ?_
      rintro e w4 ⟨rfl, dr⟩
      have B4 := Lib.hid (below_trans' B3.out (dr.below _))
      rw [ev_pos E (by decide)]
      clear dr
      go_wp2_with fail
      go_ret2
      exact ⟨_, A, k, by rw [bs_nil]; rfl, told_pos E _ (by simp), HX.out.below B4.out, by omega⟩
    · rw [QOK.out z hx hz]
      have OY := Lib.hid (OY.out z hz)
      have MK := Lib.hid (MK.out z hz)
      have CO := CO.out z
      have LO := LO.out z hz
      simp only [Int.toNat_natCast, bs_list] at OY MK
      clear hx ON QOK
      generalize blks z dt = bl at *
      generalize mkOps bl z df = ops at *
      obtain ⟨X1, hX1⟩ : ∃ X, X = Lib.decDigits (costN ops) := ⟨_, rfl⟩
      obtain ⟨Z1, hZ1⟩ : ∃ X, X = Lib.decDigits ops.length := ⟨_, rfl⟩
      have l1 : X1.length ≤ 10 := by rw [hX1]; exact dec_len_le (k := 9) (by omega)
      have l2 : Z1.length ≤ 10 := by rw [hZ1]; exact dec_len_le (k := 9) (by omega)
      obtain ⟨Y1, hY1⟩ : ∃ Y, Y = X1 ++ [32] := ⟨_, rfl⟩
      obtain ⟨Y2, hY2⟩ : ∃ Y, Y = Y1 ++ Z1 := ⟨_, rfl⟩
      have hA1 : bs X1 ++ ⟨#[32]⟩ = bs Y1 := by rw [sp32, hY1]; exact bs_add X1 [32]
      have hA2 : bs Y1 ++ bs Z1 = bs Y2 := by rw [hY2]; exact bs_add _ _
      have l3 : Y1.length ≤ 11 := by rw [hY1, List.length_append]; simp; omega
      have hc1 : ¬ 9223372036854775807 < X1.length + 1 := by omega
      have hc2 : ¬ 9223372036854775807 < Y1.length + Z1.length := by omega
      have HY : Lib.decDigits (costN ops) ++ 32 :: Lib.decDigits ops.length = Y2 := by rw [hY2, hY1, ← hX1, ← hZ1]; simp
      rw [HY]
      have IT1' := Lib.hid (IT.out (costN ops) (by omega))
      have IT2' := Lib.hid (IT.out ops.length (by omega))
      rw [← hX1] at IT1'
      rw [← hZ1] at IT2'
      clear IT hX1 hZ1 hY1 hY2 HY l1 l2 l3
      go_enter Tryz.func77, Tryz.ntmps77
      go_wp2_with fail
      refine NU.out.mono ?_
      rintro e w1 ⟨⟨v, rfl, hv⟩, b1⟩
      obtain rfl := hv z rfl
      have B1 := Lib.hid b1
      have BDB1 := Lib.hid (Below.drew B1.out)
      have GG := Lib.hid (G1.out _ BDB1.out)
      have S0 := And.intro (CS.out _ B1.out).1 (D0.out _ B1.out)
      have S1 := And.intro (CS.out _ BDB1.out).1 (D0.out _ BDB1.out)
      have KS := Lib.hid (fun (W : World) (bb : Below w1.drew.heap.size w1.drew W) => And.intro (CS.out _ (below_trans' BDB1.out bb)).1 (D0.out _ (below_trans' BDB1.out bb)))
      clear b1 NU hv
      go_wp2_with fail
      go_region_held3 (fun X => X.cell? ⟨pb, 0, none⟩ = some A.vf ∧ X.cell? ad = some (.string (bs n))) (first | exact S1 | exact S0 | exact KS.out _ (by assumption)) ((go_at_call 103; refine GG.out.mono ?_; rintro e w2 ⟨rfl, b⟩))
      have B2 := Lib.hid (below_trans' BDB1.out b)
      clear b S0 S1 KS GG
      have BDB2 := Lib.hid (Below.drew B2.out)
      have GG := Lib.hid (G2.out _ BDB2.out)
      have S0 := And.intro (CS.out _ B2.out).2 (D0.out _ B2.out)
      have S1 := And.intro (CS.out _ BDB2.out).2 (D0.out _ BDB2.out)
      have KS := Lib.hid (fun (W : World) (bb : Below w2.drew.heap.size w2.drew W) => And.intro (CS.out _ (below_trans' BDB2.out bb)).2 (D0.out _ (below_trans' BDB2.out bb)))
      go_wp2_with fail
      go_region_held3 (fun X => X.cell? ⟨pb, 1, none⟩ = some A.vt ∧ X.cell? ad = some (.string (bs n))) (first | exact S1 | exact S0 | exact KS.out _ (by assumption)) ((go_at_call 103; refine GG.out.mono ?_; rintro e w3 ⟨rfl, b⟩))
      have B3 := Lib.hid (below_trans' BDB2.out b)
      clear b S0 S1 KS GG
      go_wp2_with fail
      refine (OY.out _).mono ?_
      rintro e w4 ⟨v4, rfl, o4, b4⟩
      have B4 := Lib.hid (below_trans' B3.out b4)
      obtain ⟨va, vc, rfl⟩ := owns_slice o4
      have MK1 := Lib.hid (MK.out _ B4.out _ _ _ (SliceIs.ownedK o4))
      clear b4 o4
      go_wp2_with fail
      refine MK1.out.mono ?_
      rintro e w5 ⟨v5, rfl, o5, b5⟩
      have B5 := Lib.hid (below_trans' B4.out b5)
      have OP := Lib.hid (SliceIs.ownedK o5)
      obtain ⟨oa, oc, rfl⟩ := owns_slice o5
      have C1 := Lib.hid (cost_any _ _ _ ops _ OP.out (by omega))
      clear b5 o5 MK1
      go_wp2_with fail
      refine C1.out.mono ?_
      rintro e w6 ⟨rfl, b6⟩
      have B6 := Lib.hid (below_trans' B5.out b6)
      have IT1 := Lib.hid (IT1'.out _ B6.out)
      clear b6 C1
      go_wp2_with fail
      refine IT1.out.mono ?_
      rintro e w7 ⟨rfl, b7⟩
      have B7 := Lib.hid (below_trans' B6.out b7)
      have IT2 := Lib.hid (IT2'.out _ B7.out)
      clear b7 IT1
      go_wp2_with fail
      refine IT2.out.mono ?_
      rintro e w8 ⟨rfl, b8⟩
      have B8 := Lib.hid (below_trans' B7.out b8)
      clear b8 IT2
      go_wp2_with fail
      go_ret2
      exact ⟨_, A, k, rfl, told_nil E _, HX.out.below B8.out, by omega⟩
/-! mark -/
theorem mkX_len {m : PMk} (h1 : m.n.length ≤ 1000) (h2 : m.S ≤ 4294967295) : (mkX m).length ≤ 1100 := by
  unfold mkX
  split
  · rename_i h
    have hN : ¬ (m.N < 0 ∨ 4000 < m.N) := by
      intro e
      unfold mkC at h
      rw [if_pos e] at h
      split at h <;> omega
    unfold mkT
    have a := dec_len_le (n := m.N.toNat) (k := 9) (by omega)
    have b := dec_len_le (n := m.S) (k := 9) (by omega)
    simp only [List.length_append, List.length_cons]
    omega
  · simp
attribute [local irreducible] SP.mark mkC mkX apT apC
set_option maxRecDepth 100000 in
set_option maxHeartbeats 12800000 in
theorem pmark_any (n d : List UInt8) (v : Value) (h : PlAt Q w0 w pb A s k) (hI : SInv s) (hE : SEnv E w0) (hv : SliceIs w v 1 [.string (bs n), .string (bs d)]) (hd : d.length ≤ 1000000) (hn : n.length ≤ 1000) :
    Calls Tryz.prog 81 #[.pointer (some ⟨pb, 0, none⟩), v] w (Ans Q E w0 pb k (s.mark n d)) := by
  obtain ⟨s0, m0, c0, rfl, hm0, hm1, hm2, g1⟩ := hv.get
  obtain ⟨ad, rfl, d0⟩ := g1 0 _ rfl
  rw [addr0] at d0
  obtain ⟨ad', e', d1⟩ := g1 1 _ rfl
  cases e'
  rw [addr1] at d1
  have hm0 : m0 = 2 := by simpa using hm0.symm
  subst hm0
  have HX := Lib.hid h
  have NU := Lib.hid (number_any E 6 d w (hE.lib.below h.bel) (by omega) (by omega))
  have E1 := Lib.hid (fun (w' : World) (b : Below w.heap.size w w') => show w'.cell? ⟨1, 0, none⟩ = some (errv (E 1)) from hE.err.e1.below (below_trans' h.bel b))
  have E2 := Lib.hid (fun (w' : World) (b : Below w.heap.size w w') => show w'.cell? ⟨0, 0, none⟩ = some (errv (E 2)) from hE.err.e2.below (below_trans' h.bel b))
  have E6 := Lib.hid (fun (w' : World) (b : Below w.heap.size w w') => show w'.cell? ⟨5, 0, none⟩ = some (errv (E 6)) from hE.err.e6.below (below_trans' h.bel b))
  have CS := Lib.hid (fun (w' : World) (b : Below w.heap.size w w') => (show w'.cell? ⟨pb, 1, none⟩ = some A.vt ∧ w'.cell? ⟨pb, 3, none⟩ = some (.pointer (some ⟨A.db, 0, none⟩)) from ⟨(h.below b).cs.1.2.1, (h.below b).cs.1.2.2.2⟩))
  have D0 := Lib.hid (fun (w' : World) (b : Below w.heap.size w w') => (b.cell (World.block_lt_of_cell? w _ d0)).trans d0)
  have G2 := Lib.hid (fun (w' : World) (b : Below w.heap.size w w') => flget_any s.tt A.vt n w' (SliceIs.ownedK (h.below b).tt))
  have BT := Lib.hid (fun (m : PMk) (hm : m.n = n) (hS : m.S ≤ 4294967295) (w' : World) (b : Below w.heap.size w w') => btext_any E m w' (hE.lib.below (below_trans' h.bel b)) (by rw [hm]; omega) hS (hE.err.e5.below (below_trans' h.bel b)) (hE.err.e2.below (below_trans' h.bel b)))
  have AP := Lib.hid (fun (x : List UInt8) (hx : x.length ≤ 1000000) (w' : World) (b : Below w.heap.size w w') => tapp_s (E := E) x (h.below b).tp hE.tap hx (by have := hI.tpb; omega))
  have SM := Lib.hid (fun x (hx : fgetL s.tt n = some x) => hI.tt.len _ (fgetL_some hx))
  clear h hE hv g1 hI
  cases hx : nmL 6 d with
  | none =>
    rw [mark_none hx]
    simp only [NumIs, hx] at NU
    clear hx G2 BT AP SM
    go_enter Tryz.func81, Tryz.ntmps81
    go_wp2_with fail
    refine NU.out.mono ?_
    rintro e w1 ⟨⟨v, rfl, hv⟩, b1⟩
    have ce := E1.out _ b1
    go_wp2_with fail
    go_quiet (fail)
    go_wp2_with fail
    go_ret2
    exact ⟨_, A, k, by rw [bs_nil]; rfl, told_err E _ (by simp), HX.out.below (below_drewN b1 nq), by omega⟩
  | some z =>
    simp only [NumIs, hx] at NU
    cases hg : fgetL s.tt n with
    | none =>
      rw [mark_no hx hg]
      simp only [hg] at G2
      clear hx hg BT AP SM
      go_enter Tryz.func81, Tryz.ntmps81
      go_wp2_with fail
      refine NU.out.mono ?_
      rintro e w1 ⟨⟨v, rfl, hv⟩, b1⟩
      obtain rfl := hv z rfl
      have B1 := Lib.hid b1
      have BDB1 := Lib.hid (Below.drew B1.out)
      have GG := Lib.hid (G2.out _ BDB1.out)
      have S0 := And.intro (CS.out _ B1.out).1 (D0.out _ B1.out)
      have S1 := And.intro (CS.out _ BDB1.out).1 (D0.out _ BDB1.out)
      have KS := Lib.hid (fun (W : World) (bb : Below w1.drew.heap.size w1.drew W) => And.intro (CS.out _ (below_trans' BDB1.out bb)).1 (D0.out _ (below_trans' BDB1.out bb)))
      clear b1 NU hv
      go_wp2_with fail
      go_region_held3 (fun X => X.cell? ⟨pb, 1, none⟩ = some A.vt ∧ X.cell? ad = some (.string (bs n))) (first | exact S1 | exact S0 | exact KS.out _ (by assumption)) ((go_at_call 103; refine GG.out.mono ?_; rintro e w2 ⟨rfl, b⟩))
      have B2 := Lib.hid (below_trans' BDB1.out b)
      clear b S0 S1 KS GG
      have ce := E6.out _ B2.out
      go_wp2_with fail
      go_quiet (fail)
      go_wp2_with fail
      go_ret2
      exact ⟨_, A, k, by rw [bs_nil]; rfl, told_err E _ (by simp), HX.out.below (below_drewN B2.out nq), by omega⟩
    | some x =>
      have hxl : x.length ≤ 200 := SM.out x hg
      simp only [hg] at G2
      by_cases hz : x.length < z
      · rw [mark_far hx hg hz]
        have hzI : (x.length : Int) < z := by omega
        clear hx hg BT AP SM hz
        go_enter Tryz.func81, Tryz.ntmps81
        go_wp2_with fail
        refine NU.out.mono ?_
        rintro e w1 ⟨⟨v, rfl, hv⟩, b1⟩
        obtain rfl := hv z rfl
        have B1 := Lib.hid b1
        have BDB1 := Lib.hid (Below.drew B1.out)
        have GG := Lib.hid (G2.out _ BDB1.out)
        have S0 := And.intro (CS.out _ B1.out).1 (D0.out _ B1.out)
        have S1 := And.intro (CS.out _ BDB1.out).1 (D0.out _ BDB1.out)
        have KS := Lib.hid (fun (W : World) (bb : Below w1.drew.heap.size w1.drew W) => And.intro (CS.out _ (below_trans' BDB1.out bb)).1 (D0.out _ (below_trans' BDB1.out bb)))
        clear b1 NU hv
        go_wp2_with fail
        go_region_held3 (fun X => X.cell? ⟨pb, 1, none⟩ = some A.vt ∧ X.cell? ad = some (.string (bs n))) (first | exact S1 | exact S0 | exact KS.out _ (by assumption)) ((go_at_call 103; refine GG.out.mono ?_; rintro e w2 ⟨rfl, b⟩))
        have B2 := Lib.hid (below_trans' BDB1.out b)
        clear b S0 S1 KS GG
        have ce := E2.out _ B2.out
        go_wp2_with fail
        go_quiet (fail)
        go_wp2_with fail
        go_ret2
        exact ⟨_, A, k, by rw [bs_nil]; rfl, told_err E _ (by simp), HX.out.below (below_drewN B2.out nq), by omega⟩
      · have hzI : ¬ (x.length : Int) < z := by omega
        obtain ⟨m, hm⟩ : ∃ m : PMk, m = ⟨n, z, csum (x.take z)⟩ := ⟨_, rfl⟩
        have hmn : m.n = n := by rw [hm]
        have hmS : m.S ≤ 4294967295 := by rw [hm]; have := csum_lt (x.take z); show csum (x.take z) ≤ _; omega
        have BT := Lib.hid (BT.out m hmn hmS)
        have AP := Lib.hid (AP.out (mkX m) (by have := mkX_len (m := m) (by rw [hmn]; exact hn) hmS; omega))
        have HV : m.val = .agg #[.string (bs n), .int .i64 z, .int .u32 (csum (x.take z))] := by rw [hm]; rfl
        rw [HV] at BT
        have CSM := Lib.hid (fun (w' : World) => show Calls Tryz.prog 121 #[.string (bs (x.take z))] w' fun e w2 => e = .returned (.int .u32 (csum (x.take z))) ∧ w' = w2 from by have := sum_any (bs (x.take z)) w' (by rw [bs_size, List.length_take]; omega); rw [bs_list] at this; exact this)
        have SUB := Lib.hid (show (bs x).extract 0 z = bs (x.take z) from by apply eq_bs; simp)
        have SZ := Lib.hid (show (bs x).size = x.length from bs_size x)
        have Q1 := Lib.hid (fun h4 => mark_bad (s := s) hx hg hz h4)
        have Q2 := Lib.hid (fun h4 => mark_ok (s := s) hx hg hz h4)
        rw [← hm] at Q1 Q2
        clear hx hg SM hz hmn hmS HV
        by_cases hc : mkC m = 0
        · rw [Q2.out hc]
          rw [hc] at BT
          clear Q1 Q2 hm hc
          generalize csum (x.take z) = cs at *
          go_enter Tryz.func81, Tryz.ntmps81
          go_wp2_with fail
          refine NU.out.mono ?_
          rintro e w1 ⟨⟨v, rfl, hv⟩, b1⟩
          obtain rfl := hv z rfl
          have B1 := Lib.hid b1
          have BDB1 := Lib.hid (Below.drew B1.out)
          have GG := Lib.hid (G2.out _ BDB1.out)
          have S0 := And.intro (CS.out _ B1.out).1 (D0.out _ B1.out)
          have S1 := And.intro (CS.out _ BDB1.out).1 (D0.out _ BDB1.out)
          have KS := Lib.hid (fun (W : World) (bb : Below w1.drew.heap.size w1.drew W) => And.intro (CS.out _ (below_trans' BDB1.out bb)).1 (D0.out _ (below_trans' BDB1.out bb)))
          clear b1 NU hv
          go_wp2_with fail
          go_region_held3 (fun X => X.cell? ⟨pb, 1, none⟩ = some A.vt ∧ X.cell? ad = some (.string (bs n))) (first | exact S1 | exact S0 | exact KS.out _ (by assumption)) ((go_at_call 103; refine GG.out.mono ?_; rintro e w2 ⟨rfl, b⟩))
          have B2 := Lib.hid (below_trans' BDB1.out b)
          clear b S0 S1 KS GG
          have BD := Lib.hid (Below.drew B2.out)
          have BT1 := Lib.hid (BT.out _ BD.out)
          have S0 := D0.out _ B2.out
          have S1 := D0.out _ BD.out
          have KS := Lib.hid (fun (W : World) (bb : Below w2.drew.heap.size w2.drew W) => D0.out _ (below_trans' BD.out bb))
          have EX := SUB.out
          have y1 : (z : Int) ≤ x.length := by omega
          have y2 : (0 : Int) ≤ z := by omega
          have y3 : (z : Int).toNat = z := by omega
          go_wp2_with fail
          go_region_held3 (fun X => X.cell? ad = some (.string (bs n))) (first | exact S1 | exact S0 | exact KS.out _ (by assumption)) (first | (go_at_call 121; refine (CSM.out _).mono ?_; rintro e w3 ⟨rfl, rfl⟩) | (go_at_call 120; refine BT1.out.mono ?_; rintro e w4 ⟨rfl, b4⟩))
          have B4 := Lib.hid (below_trans' BD.out b4)
          clear b4 S0 S1 KS BT1 EX
          rw [ev_zero]
          obtain ⟨p1, p2⟩ := CS.out _ B4.out
          have AP1 := Lib.hid (AP.out _ B4.out)
          go_wp2_with fail
          refine AP1.out.mono ?_
          rintro e w5 ⟨rfl, F', hT, hL⟩
          have HP := Lib.hid ((HX.out.below B4.out).tape hL hT)
          clear hT hL p1 p2
          go_wp2_with fail
          go_ret2
          exact ⟨_, _, k, by unfold txOk bs; rfl, told_ev _ _ _, HP.out, by omega⟩
        · rw [Q1.out hc]
          have EV := Lib.hid (ev_pos E hc)
          clear Q1 Q2 hm hc
          generalize csum (x.take z) = cs at *
          go_enter Tryz.func81, Tryz.ntmps81
          go_wp2_with fail
          refine NU.out.mono ?_
          rintro e w1 ⟨⟨v, rfl, hv⟩, b1⟩
          obtain rfl := hv z rfl
          have B1 := Lib.hid b1
          have BDB1 := Lib.hid (Below.drew B1.out)
          have GG := Lib.hid (G2.out _ BDB1.out)
          have S0 := And.intro (CS.out _ B1.out).1 (D0.out _ B1.out)
          have S1 := And.intro (CS.out _ BDB1.out).1 (D0.out _ BDB1.out)
          have KS := Lib.hid (fun (W : World) (bb : Below w1.drew.heap.size w1.drew W) => And.intro (CS.out _ (below_trans' BDB1.out bb)).1 (D0.out _ (below_trans' BDB1.out bb)))
          clear b1 NU hv
          go_wp2_with fail
          go_region_held3 (fun X => X.cell? ⟨pb, 1, none⟩ = some A.vt ∧ X.cell? ad = some (.string (bs n))) (first | exact S1 | exact S0 | exact KS.out _ (by assumption)) ((go_at_call 103; refine GG.out.mono ?_; rintro e w2 ⟨rfl, b⟩))
          have B2 := Lib.hid (below_trans' BDB1.out b)
          clear b S0 S1 KS GG
          have BD := Lib.hid (Below.drew B2.out)
          have BT1 := Lib.hid (BT.out _ BD.out)
          have S0 := D0.out _ B2.out
          have S1 := D0.out _ BD.out
          have KS := Lib.hid (fun (W : World) (bb : Below w2.drew.heap.size w2.drew W) => D0.out _ (below_trans' BD.out bb))
          have EX := SUB.out
          have y1 : (z : Int) ≤ x.length := by omega
          have y2 : (0 : Int) ≤ z := by omega
          have y3 : (z : Int).toNat = z := by omega
          go_wp2_with fail
          go_region_held3 (fun X => X.cell? ad = some (.string (bs n))) (first | exact S1 | exact S0 | exact KS.out _ (by assumption)) (first | (go_at_call 121; refine (CSM.out _).mono ?_; rintro e w3 ⟨rfl, rfl⟩) | (go_at_call 120; refine BT1.out.mono ?_; rintro e w4 ⟨rfl, b4⟩))
          have B4 := Lib.hid (below_trans' BD.out b4)
          clear b4 S0 S1 KS BT1 EX
          rw [EV.out]
          go_wp2_with fail
          go_ret2
          exact ⟨_, A, k, by unfold txOk bs; rfl, by rw [← EV.out]; exact told_ev _ _ _, HX.out.below B4.out, by omega⟩
end
end Go.Proofs.YtppkeophochgiaaGreatDoor
