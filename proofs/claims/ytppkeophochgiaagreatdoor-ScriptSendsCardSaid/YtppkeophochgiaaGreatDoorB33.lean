/- Texts of one proof, one behind the other: TapDisk. -/
import Derived.Test.YtppkeophochgiaaGreatDoorB06
import Derived.Test.YtppkeophochgiaaGreatDoorB27
import Derived.Deep.RegionLaw
/- Contracts of tape's disk: NewDisk, Cut, On, Power, Bytes, write. -/
namespace Go.Proofs.YtppkeophochgiaaGreatDoor
open Go.RowKit
set_option linter.unusedVariables false

/-- a disk at block db: v its bytes' slice -/
structure DiskAt (w : World) (base db : Nat) (v : Value) (d : TP) : Prop where
  cells : w.heap[db]? = some (.cells #[v, .bool d.off, .int .i64 d.cut] 109 (0, 0))
  buf : BufIs w base 5 v (d.b.map bv)
  ne : v.ownBlock ≠ some db
  lo : base ≤ db
  cut : -1 ≤ d.cut ∧ d.cut ≤ 9223372036854775807
def DFoot (db : Nat) (v : Value) : Nat → Prop := fun x => x = db ∨ v.ownBlock = some x
/-- what becomes of a disk, and what else may turn -/
def DiskTo (w w' : World) (base db : Nat) (v : Value) (d : TP) : Prop :=
  ∃ v', DiskAt w' base db v' d ∧ Chg w w' (DFoot db v) ∧ ∀ x, v'.ownBlock = some x → v.ownBlock = some x ∨ w.heap.size ≤ x
theorem DiskAt.lt {w : World} {base db : Nat} {v : Value} {d : TP} (h : DiskAt w base db v d) : db < w.heap.size := lt_of_block h.cells
theorem DiskAt.cs {w : World} {base db : Nat} {v : Value} {d : TP} (h : DiskAt w base db v d) : (w.cell? ⟨db, 0, none⟩ = some v ∧ w.cell? ⟨db, 1, none⟩ = some (.bool d.off) ∧ w.cell? ⟨db, 2, none⟩ = some (.int .i64 d.cut)) ∧ ∀ k, w.frozen? ⟨db, k, none⟩ = false := by
  refine ⟨⟨?_, ?_, ?_⟩, fun k => ?_⟩ <;> simp [World.cell?, World.frozen?, h.cells]
theorem DiskAt.kept {w w' : World} {base db : Nat} {v : Value} {d : TP} {S : Nat → Prop} (h : DiskAt w base db v d) (hc : Chg w w' S) (h1 : ¬ S db) (h2 : ∀ x, v.ownBlock = some x → ¬ S x) : DiskAt w' base db v d :=
  ⟨(hc.block db h.lt h1).trans h.cells, h.buf.kept fun b hb => hc.block b (h.buf.at hb).2 (h2 b hb), h.ne, h.lo, h.cut⟩
theorem DiskAt.below {w w' : World} {base db : Nat} {v : Value} {d : TP} (h : DiskAt w base db v d) (hb : Below w.heap.size w w') : DiskAt w' base db v d :=
  h.kept (Chg.of_below hb (fun _ => False)) (fun h => h) (fun _ _ h => h)
theorem DiskTo.same {w w' : World} {base db : Nat} {v : Value} {d : TP} (h : DiskAt w base db v d) (hb : Below w.heap.size w w') : DiskTo w w' base db v d :=
  ⟨v, h.below hb, Chg.of_below hb _, fun x hx => .inl hx⟩
theorem DiskAt.val {w : World} {base db : Nat} {v : Value} {d : TP} (h : DiskAt w base db v d) : ∃ a c, v = .slice a d.b.length c := by
  obtain ⟨a, c, e⟩ := h.buf.val
  rw [List.length_map] at e
  exact ⟨a, c, e⟩
/-- a field of the two others is stored -/
theorem DiskAt.off {w : World} {base db : Nat} {v : Value} {d : TP} (h : DiskAt w base db v d) (o : Bool) : DiskAt (w.setCell ⟨db, 1, none⟩ (.bool o)) base db v ⟨d.b, o, d.cut⟩ ∧ Chg w (w.setCell ⟨db, 1, none⟩ (.bool o)) (fun x => x = db) := by
  have hc := (Chg.refl w (fun x => x = db)).set ⟨db, 1, none⟩ (.inl rfl) (.bool o)
  refine ⟨⟨by simpa using set_at (k := 1) (u := .bool o) h.cells, h.buf.kept fun b hb => hc.block b (h.buf.at hb).2 (fun e => h.ne (e ▸ hb)), h.ne, h.lo, h.cut⟩, hc⟩
theorem DiskAt.setcut {w : World} {base db : Nat} {v : Value} {d : TP} (h : DiskAt w base db v d) (c : Int) (h2 : -1 ≤ c ∧ c ≤ 9223372036854775807) : DiskAt (w.setCell ⟨db, 2, none⟩ (.int .i64 c)) base db v ⟨d.b, d.off, c⟩ ∧ Chg w (w.setCell ⟨db, 2, none⟩ (.int .i64 c)) (fun x => x = db) := by
  have hc := (Chg.refl w (fun x => x = db)).set ⟨db, 2, none⟩ (.inl rfl) (.int .i64 c)
  refine ⟨⟨by simpa using set_at (k := 2) (u := .int .i64 c) h.cells, h.buf.kept fun b hb => hc.block b (h.buf.at hb).2 (fun e => h.ne (e ▸ hb)), h.ne, h.lo, h2⟩, hc⟩
/-- the bytes' slice is stored -/
theorem DiskAt.setbuf {w w1 : World} {base db : Nat} {v v' : Value} {d : TP} {l : List UInt8} (h : DiskAt w base db v d) (hbuf : BufIs w1 base 5 v' (l.map bv)) (hg : w.grownBy w1 v.ownBlock) (ha : v'.ownBlock = v.ownBlock ∨ v'.ownBlock = some w.heap.size) :
    DiskTo w (w1.setCell ⟨db, 0, none⟩ v') base db v ⟨l, d.off, d.cut⟩ := by
  have hcell : w1.heap[db]? = some (.cells #[v, .bool d.off, .int .i64 d.cut] 109 (0, 0)) := (hg.block db h.lt (fun e => h.ne e.symm)).trans h.cells
  have hne : v'.ownBlock ≠ some db := by
    rcases ha with ha | ha
    · rw [ha]; exact h.ne
    · rw [ha]; intro e; have := h.lt; simp at e; omega
  have hc1 : Chg w w1 (DFoot db v) := ⟨hg.os, hg.tape, hg.output, hg.size, fun k hk hn => hg.block k hk (fun e => hn (.inr e.symm))⟩
  have hc2 := (Chg.refl w1 (fun x => x = db)).set ⟨db, 0, none⟩ (.inl rfl) v'
  refine ⟨v', ⟨by simpa using set_at (k := 0) (u := v') hcell, hbuf.kept fun b hb => hc2.block b (hbuf.at hb).2 (fun e => hne (e ▸ hb)), hne, h.lo, h.cut⟩, hc1.trans hc2 (fun x _ hx => .inl hx), fun x hx => ?_⟩
  rcases ha with ha | ha
  · rw [ha] at hx; exact .inl hx
  · rw [ha] at hx; right; simp at hx; omega
theorem DiskTo.trans {w w1 w2 : World} {base db : Nat} {v : Value} {d d2 : TP} (h : DiskTo w w1 base db v d) (k : ∀ v', DiskAt w1 base db v' d → DiskTo w1 w2 base db v' d2) : DiskTo w w2 base db v d2 := by
  obtain ⟨v1, h1, hc1, ha1⟩ := h
  obtain ⟨v2, h2, hc2, ha2⟩ := k v1 h1
  refine ⟨v2, h2, hc1.trans hc2 (fun x hx hf => ?_), fun x hx => ?_⟩
  · rcases hf with rfl | hf
    · exact .inl rfl
    · rcases ha1 x hf with h | h
      · exact .inr h
      · omega
  · rcases ha2 x hx with h | h
    · exact ha1 x h
    · have := hc1.size; exact .inr (by omega)
theorem DiskTo.of {w w1 : World} {base db : Nat} {v : Value} {d : TP} (h : DiskAt w1 base db v d) (hc : Chg w w1 (fun x => x = db)) : DiskTo w w1 base db v d :=
  ⟨v, h, hc.more (fun x _ hx => .inl hx), fun x hx => .inl hx⟩
theorem DiskAt.drew {w : World} {base db : Nat} {v : Value} {d : TP} (h : DiskAt w base db v d) (n : Nat) : DiskAt (w.drewN n) base db v d := ⟨h.cells, h.buf.kept (fun _ _ => rfl), h.ne, h.lo, h.cut⟩

set_option maxRecDepth 100000 in
set_option maxHeartbeats 3200000 in
theorem newdisk_any (s : ByteArray) (w : World) (hs : s.size ≤ 1048576) :
    Calls Tryz.prog 20 #[.string s] w fun e w' => ∃ db, e = .returned (.tuple #[.pointer (some ⟨db, 0, none⟩), .nilIface]) ∧ (∃ v, DiskAt w' w.heap.size db v ⟨s.data.toList, false, -1⟩) ∧ Below w.heap.size w w' := by
  have hI : ¬ (1048576 : Int) < s.size := by omega
  have hcv := fun w' => Lib.run_convert_string_bytes (P := Tryz.prog) w' 9 107 5 s Tryz.underlying9 Tryz.underlying107 Tryz.underlying5
  go_enter Tryz.func20, Tryz.ntmps20
  go_wp2_with fail
  have B0 := BufIs.conv w w.heap.size 5 s (Nat.le_refl _) (by unfold maxLen; omega)
  have b0 := Lib.bytesWorld_below w 5 s
  go_ret2
  have hsz : (Lib.bytesWorld w 5 s).heap.size = w.heap.size + 1 := Lib.bytesWorld_size _ _ _
  have hn := heap_alloc_new (Lib.bytesWorld w 5 s) (.cells #[.slice (some ⟨w.heap.size, 0, none⟩) s.size (grownCap w s.size 0 5), .bool false, .int .i64 (-1)] 109)
  have b1 := wb_alloc (Lib.bytesWorld w 5 s) (.cells #[.slice (some ⟨w.heap.size, 0, none⟩) s.size (grownCap w s.size 0 5), .bool false, .int .i64 (-1)] 109)
  have e1 : Lib.strCells s = s.data.toList.map bv := by rw [← bs_of s, strCells_bs, bs_list]
  rw [e1] at B0
  exact ⟨_, rfl, ⟨_, hn, B0.below b1, by simp [Value.ownBlock, hsz], by omega, ⟨by simp, by simp⟩⟩, below_trans' b0 b1⟩
set_option maxRecDepth 100000 in
set_option maxHeartbeats 3200000 in
theorem dcut_any (E : Nat → Addr) (base db : Nat) (v : Value) (d : TP) (n : Int) (w : World) (h : DiskAt w base db v d) (hn : n ≤ 9223372036854775807) (hB : Has E w 2) (hO : Has E w 12) :
    Calls Tryz.prog 127 #[.pointer (some ⟨db, 0, none⟩), .int .i64 n] w fun e w' => e = .returned (ev E (ctC d n)) ∧ DiskTo w w' base db v (ctT d n) := by
  obtain ⟨⟨c0, c1, c2⟩, cf⟩ := h.cs
  have f2 := cf 2
  have cB : w.cell? ⟨0, 0, none⟩ = some (errv (E 2)) := hB
  have cO : w.cell? ⟨11, 0, none⟩ = some (errv (E 12)) := hO
  have HD := Lib.hid h
  clear h hB hO cf
  by_cases h1 : n < 0
  · have e1 : ctC d n = 2 := by unfold ctC; rw [if_pos h1]
    have e2 : ctT d n = d := by unfold ctT; rw [if_pos h1]
    rw [e1, e2, ev_is E (by decide)]
    clear e1 e2
    go_enter Tryz.func127, Tryz.ntmps127
    go_wp2_with fail
    go_ret
    exact ⟨rfl, DiskTo.same HD.out (Below.refl _ _)⟩
  · cases ho : d.off with
    | true =>
      have e1 : ctC d n = 12 := by unfold ctC; rw [if_neg h1, if_pos ho]
      have e2 : ctT d n = d := by unfold ctT; rw [if_neg h1, if_pos ho]
      rw [e1, e2, ev_is E (by decide)]
      rw [ho] at c1
      clear e1 e2 ho
      go_enter Tryz.func127, Tryz.ntmps127
      go_wp2_with fail
      go_ret
      exact ⟨rfl, DiskTo.same HD.out (Below.refl _ _)⟩
    | false =>
      have e1 : ctC d n = 0 := by unfold ctC; rw [if_neg h1, if_neg (by simp [ho])]
      have e2 : ctT d n = ⟨d.b, d.off, n⟩ := by unfold ctT; rw [if_neg h1, if_neg (by simp [ho])]
      rw [e1, e2, ev_zero]
      rw [ho] at c1
      have T := Lib.hid (HD.out.setcut n (by omega))
      clear e1 e2 ho
      go_enter Tryz.func127, Tryz.ntmps127
      go_wp2_with fail
      go_ret
      exact ⟨rfl, DiskTo.of T.out.1 T.out.2⟩
set_option maxRecDepth 100000 in
set_option maxHeartbeats 3200000 in
theorem don_any (base db : Nat) (v : Value) (d : TP) (w : World) (h : DiskAt w base db v d) :
    Calls Tryz.prog 167 #[.pointer (some ⟨db, 0, none⟩)] w fun e w' => e = .returned (.tuple #[]) ∧ DiskTo w w' base db v (onT d) := by
  obtain ⟨⟨c0, c1, c2⟩, cf⟩ := h.cs
  have f1 := cf 1
  have f2 := cf 2
  have T1 := h.off false
  have T2 := T1.1.setcut (-1) (by decide)
  have T := Lib.hid (DiskTo.of T2.1 (T1.2.trans T2.2 (fun x _ hx => hx)))
  clear h cf T1 T2
  go_enter Tryz.func167, Tryz.ntmps167
  go_wp2_with fail
  go_returns
  exact ⟨rfl, T.out⟩
set_option maxRecDepth 100000 in
set_option maxHeartbeats 3200000 in
theorem run_bytes_buf {w : World} {base : Nat} {v : Value} {l : List UInt8} (h : BufIs w base 5 v (l.map bv)) : (convert 107 9 v).run Tryz.prog w = .ok (.string (bs l)) w := by
  rcases h.slice with ⟨rfl, e⟩ | ⟨a, len, cap, rfl, h1, h2, h3, h4⟩
  · have : l = [] := by simpa using e
    subst this
    have := run_convert_bytes_back (P := Tryz.prog) w 107 9 5 ⟨0, 0, none⟩ 0 [] Tryz.underlying107 Tryz.underlying5 Tryz.underlying9 (fun j hj => by simp at hj)
    simp [convert, run_underlying Tryz.underlying107, run_underlying Tryz.underlying9, run_underlying Tryz.underlying5, Conv.bytesToString] at this ⊢
    unfold bs
    rfl
  · have hl : l.length = len := by simpa using h3
    have := run_convert_bytes_back (P := Tryz.prog) w 107 9 5 a cap l Tryz.underlying107 Tryz.underlying5 Tryz.underlying9 (fun j hj => by
      have := h4 j (bv l[j]) (by simp [hj])
      simpa [bv] using this)
    rw [hl] at this
    rw [this]
    congr 2
    exact eq_bs (by simp)
theorem dbytes_any (base db : Nat) (v : Value) (d : TP) (w : World) (h : DiskAt w base db v d) :
    Calls Tryz.prog 124 #[.pointer (some ⟨db, 0, none⟩)] w fun e w' => e = .returned (.string (bs d.b)) ∧ w' = w := by
  obtain ⟨⟨c0, c1, c2⟩, cf⟩ := h.cs
  have hcv := run_bytes_buf h.buf
  clear h cf c1 c2
  go_enter Tryz.func124, Tryz.ntmps124
  go_wp2_with fail
  go_ret
  exact ⟨rfl, rfl⟩
end Go.Proofs.YtppkeophochgiaaGreatDoor
