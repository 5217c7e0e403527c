/- Blocks of cells, and what the operations on memory come to, over any program. -/
import Derived.Test.YtpdceilhgaladaaGreatDoorRun
import Derived.Laws.AppendOwn
import Derived.Laws.OwnMore
import Derived.Laws.CopyRow
import Derived.Great.BuildSlice
import Derived.Maps.AppendAt
namespace Go.Vc
open Go.RowKit

/-! ### How a world may have changed -/
theorem Ext.grown {w0 w w' : World} {row : Option Nat} (h : Ext w0 w) (hg : w.grownBy w' row) (hrow : ∀ k, row = some k → w0.heap.size ≤ k) : Ext w0 w' :=
  Below.grown h hg h.size hrow
theorem Ext.of_grown {w w' : World} (h : w.grownBy w' none) : Ext w w' := (Ext.refl w).grown h (fun k e => by cases e)
theorem grown_of_ext {w w' : World} (h : Ext w w') (row : Option Nat) : w.grownBy w' row := ⟨h.os, h.tape, h.output, h.size, fun k hk _ => h.block k hk⟩
theorem Ext.below {n : Nat} {w0 w w' : World} (h : Below n w0 w) (hn : n ≤ w.heap.size) (hx : Ext w w') : Below n w0 w' := Below.trans h (Below.mono hx hn)

/-- Block g is that row of cells, none of them frozen. -/
def Blk (w : World) (g : Nat) (l : List Value) (t : TypeId) : Prop := w.heap[g]? = some (.cells l.toArray t (0, 0))
theorem Blk.lt {w : World} {g : Nat} {l : List Value} {t : TypeId} (h : Blk w g l t) : g < w.heap.size := (Array.getElem?_eq_some_iff.1 h).1
theorem Blk.cell {w : World} {g : Nat} {l : List Value} {t : TypeId} (h : Blk w g l t) (i : Nat) : w.cell? ⟨g, i, none⟩ = l[i]? := by
  have h' : w.heap[g]? = _ := h
  simp [World.cell?, h']
theorem Blk.frozen {w : World} {g : Nat} {l : List Value} {t : TypeId} (h : Blk w g l t) (i : Nat) : w.frozen? ⟨g, i, none⟩ = false := by
  have h' : w.heap[g]? = _ := h
  simp [World.frozen?, h']
theorem Blk.inj {w : World} {g : Nat} {l l' : List Value} {t t' : TypeId} (h : Blk w g l t) (h' : Blk w g l' t') : l = l' ∧ t = t' := by
  have e : w.heap[g]? = _ := h
  have e' : w.heap[g]? = _ := h'
  rw [e] at e'
  simpa using e'
theorem Blk.kept {w w' : World} {row : Option Nat} {g : Nat} {l : List Value} {t : TypeId} (h : Blk w g l t) (hg : w.grownBy w' row) (hne : some g ≠ row) : Blk w' g l t := (hg.block g h.lt hne).trans h
theorem Blk.ext {w w' : World} {g : Nat} {l : List Value} {t : TypeId} (h : Blk w g l t) (hx : Ext w w') : Blk w' g l t := (hx.block g h.lt).trans h
theorem Blk.below {n : Nat} {w w' : World} {g : Nat} {l : List Value} {t : TypeId} (h : Blk w g l t) (hx : Below n w w') (hg : g < n) : Blk w' g l t := (hx.block g hg).trans h

/-- One new block. -/
structure New (w w' : World) (l : List Value) (t : TypeId) : Prop where
  blk : Blk w' w.heap.size l t
  size : w'.heap.size = w.heap.size + 1
  ext : Ext w w'
theorem New.mk' (w : World) (l : List Value) (t : TypeId) : New w (w.alloc (.cells l.toArray t)) l t :=
  ⟨by unfold Blk; exact heap_alloc_new w _, by simp, (Below.refl _ _).alloc (Nat.le_refl _) _⟩

theorem grown_setRow {w : World} (g : Nat) (cs : Array Value) : w.grownBy (w.setRow g cs) (some g) :=
  ⟨rfl, rfl, rfl, by rw [setRow_size]; exact Nat.le_refl _, fun k _ hne => setRow_other w g k cs (fun e => hne (by rw [e]))⟩
theorem Blk.setRow {w : World} {g : Nat} {l : List Value} {t : TypeId} (h : Blk w g l t) (l' : List Value) : Blk (w.setRow g l'.toArray) g l' t := setRow_heap w g _ _ t (0, 0) h

/-- A cell that is there stays, where the world has only grown. -/
theorem cell_ext {w w' : World} {a : Addr} {v : Value} (hx : Ext w w') (h : w.cell? a = some v) : w'.cell? a = some v := (hx.cell (World.block_lt_of_cell? w a h)).trans h
theorem add_zero_ (a : Addr) : a.add 0 = a := by simp [Addr.add]
theorem add_off (g i j : Nat) : (⟨g, i, none⟩ : Addr).add j = ⟨g, i + j, none⟩ := by unfold Addr.add; split <;> simp_all

/-! ### What the types say -/
def aggD : TypeDesc → Bool
  | .struct _ | .array _ _ => true
  | _ => false
def sizeAt (P : Program) (t : TypeId) : Option Nat := (P.info? t).map (·.size)
def zeroAt (P : Program) (t : TypeId) : Option (List Value) := (P.info? t).bind fun i => i.zero.map fun v => v.cells.toList
/-- What growing a row of such elements asks for: their size in cells, in bytes, and their zero. -/
def rowIs (P : Program) (e : TypeId) (size bytes : Nat) (z : List Value) : Prop := ∃ i v, P.info? e = some i ∧ i.zero = some v ∧ i.size = size ∧ i.bytes = bytes ∧ v.cells = z.toArray
def rowIsB (P : Program) (e : TypeId) : Option (Nat × Nat × List Value) := (P.info? e).bind fun i => i.zero.map fun v => (i.size, i.bytes, v.cells.toList)
theorem rowIs_of {P : Program} {e : TypeId} {size bytes : Nat} {z : List Value} (h : rowIsB P e = some (size, bytes, z)) : rowIs P e size bytes z := by
  unfold rowIsB at h
  cases hi : P.info? e with
  | none => simp [hi] at h
  | some i =>
    cases hz : i.zero with
    | none => simp [hi, hz] at h
    | some v => simp [hi, hz] at h; exact ⟨i, v, hi, hz, h.1, h.2.1, by rw [← h.2.2]⟩

section
variable {P : Program} {w w' : World} {K : Value → World → Prop} {Kp : List PanicEntry → World → Prop} {t e : TypeId}

theorem run_underlying' {d : TypeDesc} (h : P.underlying t = some d) (w : World) : (underlying t).run P w = .ok d w := by simp [underlying, program, Sem.run, bind, Sem.bind, h, pure]
theorem run_sizeOf {n : Nat} (h : sizeAt P t = some n) (w : World) : (sizeOf t).run P w = .ok n w := by
  unfold sizeAt at h
  cases hi : P.info? t with
  | none => simp [hi] at h
  | some i => simp [hi] at h; simp [sizeOf, typeInfo, program, Sem.run, bind, Sem.bind, pure, hi, h]
theorem run_isAgg' {d : TypeDesc} (h : P.underlying t = some d) (w : World) : (isAgg t).run P w = .ok (aggD d) w := by
  unfold isAgg
  show (Sem.bind _ _).run P w = _
  rw [Vc.run_bind, run_underlying' h]
  cases d <;> rfl

/-! ### Loads and stores -/
theorem run_load1 {d : TypeDesc} (hu : P.underlying t = some d) (hd : aggD d = false) {a : Addr} {v : Value} (hc : w.cell? a = some v) : (Instr.loadAt t (.pointer (some a))).run P w = .ok v w := by
  have := run_isAgg' hu w
  rw [hd] at this
  simp [Instr.loadAt, Instr.sureAddr, loadVar, this, load, hc, Sem.run]
theorem run_loadAgg {d : TypeDesc} (hu : P.underlying t = some d) (hd : aggD d = true) {a : Addr} {l : List Value} (hs : sizeAt P t = some l.length) (hc : ∀ j v, l[j]? = some v → w.cell? (a.add j) = some v) :
    (Instr.loadAt t (.pointer (some a))).run P w = .ok (.agg l.toArray) w := by
  have h1 := run_isAgg' hu w
  rw [hd] at h1
  have h2 := run_loadCells_list (P := P) w a l hc
  simp [Instr.loadAt, Instr.sureAddr, loadVar, h1, run_sizeOf hs, h2]
theorem run_store {g i : Nat} {l : List Value} {tb : TypeId} {v : Value} {n : Nat} (hs : sizeAt P t = some n) (hb : Blk w g l tb) (hn : v.cells.size = n) (hi : i + n ≤ l.length) (h1 : ∀ c ∈ v.cells.toList, c.oneCell' = true) :
    (Instr.storeAt t (.pointer (some ⟨g, i, none⟩)) v).run P w = .ok () (w.setRow g (l.take i ++ v.cells.toList ++ l.drop (i + n)).toArray) := by
  have hst := run_storeCells_at P g i tb v.cells.toList 0 l.toArray w hb (by simp; omega) h1
  simp only [Nat.add_zero, Array.length_toList] at hst
  simp [Instr.storeAt, Instr.sureAddr, storeVar, run_sizeOf hs, hn, hst]
theorem DoU_store {g i : Nat} {l : List Value} {tb : TypeId} {v : Value} {K : World → Prop} (hs : sizeAt P t = some 1) (hb : Blk w g l tb) (hi : i < l.length) (h1 : v.oneCell' = true)
    (hk : ∀ w', Blk w' g (l.set i v) tb → w.grownBy w' (some g) → K w') : DoU P (Instr.storeAt t (.pointer (some ⟨g, i, none⟩)) v) w K Kp := by
  have hv : v.cells = #[v] := by cases v <;> first | rfl | cases h1
  have := run_store (v := v) hs hb (by rw [hv]; rfl) (by omega : i + 1 ≤ l.length) (by rw [hv]; simpa using h1)
  refine DoU_of this (hk _ ?_ (grown_setRow g _))
  have e : l.take i ++ v.cells.toList ++ l.drop (i + 1) = l.set i v := by rw [hv, List.set_eq_take_append_cons_drop, if_pos hi]; simp
  rw [e]
  exact hb.setRow _
theorem DoU_storeAgg {g i : Nat} {l m : List Value} {tb : TypeId} {K : World → Prop} (hs : sizeAt P t = some m.length) (hb : Blk w g l tb) (hi : i + m.length ≤ l.length) (h1 : ∀ c ∈ m, c.oneCell' = true)
    (hk : ∀ w', Blk w' g (l.take i ++ m ++ l.drop (i + m.length)) tb → w.grownBy w' (some g) → K w') : DoU P (Instr.storeAt t (.pointer (some ⟨g, i, none⟩)) (.agg m.toArray)) w K Kp :=
  DoU_of (run_store (v := .agg m.toArray) hs hb rfl hi (by simpa [Value.cells] using h1)) (hk _ (hb.setRow _) (grown_setRow g _))

/-! ### New blocks -/
theorem run_zero {l : List Value} (h : zeroAt P t = some l) : ∃ v : Value, v.cells = l.toArray ∧ ∀ w, (zeroValue t).run P w = .ok v w := by
  unfold zeroAt at h
  cases hi : P.info? t with
  | none => simp [hi] at h
  | some i =>
    cases hz : i.zero with
    | none => simp [hi, hz] at h
    | some v => simp [hi, hz] at h; exact ⟨v, by rw [← h], fun w => by simp [zeroValue, typeInfo, program, Sem.run, bind, Sem.bind, pure, hi, hz]⟩
theorem Do_alloc {l : List Value} (hz : zeroAt P t = some l) (hk : ∀ w', New w w' l t → K (.pointer (some ⟨w.heap.size, 0, none⟩)) w') : Do P (Instr.alloc t true (.tuple #[])) w K Kp := by
  obtain ⟨v, hv, hr⟩ := run_zero hz
  refine Do_of (w' := w.alloc (.cells l.toArray t)) ?_ (hk _ (New.mk' w l t))
  show ((zeroValue t).bind fun z => (newVar t z).bind fun a => Sem.pure (Value.pointer (some a))).run P w = _
  rw [Vc.run_bind, hr]
  dsimp only [newVar, newRow]
  rw [hv]
  rfl
theorem Do_box {v : Value} {l : List Value} (hv : v.cells = l.toArray) (hk : ∀ w', New w w' l t → K (.pointer (some ⟨w.heap.size, 0, none⟩)) w') : Do P (Instr.box t v) w K Kp := by
  refine Do_of (w' := w.alloc (.cells l.toArray t)) ?_ (hk _ (New.mk' w l t))
  show ((newVar t v).bind fun a => Sem.pure (Value.pointer (some a))).run P w = _
  dsimp only [newVar, newRow]
  rw [hv]
  rfl
theorem Do_buildSlice {len n bytes : Nat} {z cells : List Value} {parts : Array (Nat × Value)} (hu : P.underlying t = some (.slice e)) (he : rowIs P e n bytes z) (hsmall : len * n ≤ 2 ^ 24) (hpos : len * n ≠ 0)
    (h : Instr.fill (fun i => some (i * n, n)) ((Array.range (len * n)).map (z.toArray[· % z.length]!)) parts.toList = some cells.toArray)
    (hk : ∀ w', New w w' cells e → K (.slice (some ⟨w.heap.size, 0, none⟩) len len) w') : Do P (Instr.buildSlice t len parts) w K Kp := by
  obtain ⟨i, v, hi, hz, hs, _, hv⟩ := he
  subst hs
  have := run_buildSlice w t e len parts cells.toArray i v hu hi hz (by omega) hpos (by rw [hv]; simpa using h)
  exact Do_of this (hk _ (New.mk' w cells e))
theorem Do_makeSlice {n bytes l c : Nat} {kl kc : IntKind} {z : List Value} (hu : P.underlying t = some (.slice e)) (he : rowIs P e n bytes z) (hl : l ≤ c) (hb : bytes * c ≤ 281474976710656) (hc : c ≤ 9223372036854775807)
    (hk : ∀ w', New w w' (madeCells z.toArray (c * n)).toList e → K (.slice (some ⟨w.heap.size, 0, none⟩) l c) w') : Do P (Instr.makeSlice t (.int kl l) (.int kc c)) w K Kp := by
  obtain ⟨i, v, hi, hz, hs, hby, hv⟩ := he
  subst hs hby
  have hb' : (i.bytes : Int) * (c : Int) ≤ 281474976710656 := by
    have h : ((i.bytes * c : Nat) : Int) ≤ 281474976710656 := by omega
    rwa [Int.natCast_mul] at h
  have := run_make (P := P) w t e i v hu hi hz kl kc l c (by omega) (by omega) hb' (by omega)
  rw [hv] at this
  simp only [Int.toNat_natCast] at this
  exact Do_of this (hk _ (New.mk' w (madeCells z.toArray (c * i.size)).toList e))

/-! ### Addresses -/
theorem run_nil_ptr (a : Addr) (w : World) : (nilS (.pointer (some a))).run P w = .ok (.value (.pointer (some a))) w := rfl
theorem run_fieldAt {fs : Array Field} {f : Nat} {fld : Field} {n o : Nat} (hu : P.underlying t = some (.struct fs)) (hf : fs[f]? = some fld) (hs : sizeAt P fld.type = some (n + 1)) (ho : fld.offset = o) (g i : Nat) (w : World) :
    (Instr.fieldAt t (.pointer (some ⟨g, i, none⟩)) f).run P w = .ok (.pointer (some ⟨g, i + o, none⟩)) w := by
  subst ho
  simp [Instr.fieldAt, run_underlying' hu, hf, Instr.sureAddr, fieldPlace, run_sizeOf hs, add_off]
theorem run_indexSl {n c s : Nat} {i : Int} {k : IntKind} (hu : P.underlying t = some (.slice e)) (hs : sizeAt P e = some s) (a : Addr) (h0 : 0 ≤ i) (hi : i < n) (w : World) :
    (Instr.indexAt t (.slice (some a) n c) (.int k i)).run P w = .ok (.pointer (some (a.add (i.toNat * s)))) w := by
  simp [Instr.indexAt, asIntOf, run_underlying' hu, h0, hi, run_sizeOf hs]
theorem run_indexArr {n s g o : Nat} {i : Int} {k : IntKind} (hu : P.underlying t = some (.array n e)) (hs : sizeAt P e = some s) (h0 : 0 ≤ i) (hi : i < n) (w : World) :
    (Instr.indexAt t (.pointer (some ⟨g, o, none⟩)) (.int k i)).run P w = .ok (.pointer (some ⟨g, o + i.toNat * s, none⟩)) w := by
  simp [Instr.indexAt, asIntOf, run_underlying' hu, Instr.sureAddr, h0, hi, run_sizeOf hs, add_off]
theorem run_index1 {n : Nat} {i : Int} {k : IntKind} {d : TypeDesc} {l : List Value} {v : Value} (hu : P.underlying t = some (.array n e)) (hs : sizeAt P e = some 1) (hd : P.underlying e = some d) (ha : aggD d = false) (h0 : 0 ≤ i) (hi : i < n) (hv : l[i.toNat]? = some v) (w : World) :
    (Instr.index t (.agg l.toArray) (.int k i)).run P w = .ok v w := by
  have h1 := run_isAgg' hd w
  rw [ha] at h1
  simp [Instr.index, asIntOf, run_underlying' hu, h0, hi, run_sizeOf hs, part, h1, hv]
theorem run_sliceArr {n s g o l h : Nat} (hu : P.underlying t = some (.array n e)) (hs : sizeAt P e = some s) (lo hi : Option Value) (hlo : lo = some (.int .i64 l) ∨ lo = none ∧ l = 0) (hhi : hi = some (.int .i64 h) ∨ hi = none ∧ h = n) (h1 : l ≤ h) (h2 : h ≤ n) (hne : l ≠ n) (w : World) :
    (Instr.sliceAt t (.pointer (some ⟨g, o, none⟩)) lo hi none).run P w = .ok (.slice (some ⟨g, o + l * s, none⟩) (h - l) (n - l)) w := by
  rcases hlo with rfl | ⟨rfl, rfl⟩ <;> rcases hhi with rfl | ⟨rfl, rfl⟩ <;>
    simp [Instr.sliceAt, run_underlying' hu, Instr.sureAddr, Instr.sliceBounds, Instr.sliceBound, asIntOf, h1, h2, run_sizeOf hs, add_off] <;> omega
theorem run_sliceSl {s n c l h : Nat} {a : Addr} (hu : P.underlying t = some (.slice e)) (hs : sizeAt P e = some s) (lo hi : Option Value) (hlo : lo = some (.int .i64 l) ∨ lo = none ∧ l = 0) (hhi : hi = some (.int .i64 h) ∨ hi = none ∧ h = n) (h1 : l ≤ h) (h2 : h ≤ c) (w : World) :
    (Instr.sliceAt t (.slice (some a) n c) lo hi none).run P w = .ok (.slice (some (if c = l then a else a.add (l * s))) (h - l) (c - l)) w := by
  rcases hlo with rfl | ⟨rfl, rfl⟩ <;> rcases hhi with rfl | ⟨rfl, rfl⟩ <;>
    simp [Instr.sliceAt, Instr.slice, run_underlying' hu, Instr.sliceBounds, Instr.sliceBound, asIntOf, h1, h2, run_sizeOf hs] <;> (try split) <;> simp_all
theorem run_sliceNil {s l h : Nat} (hu : P.underlying t = some (.slice e)) (hs : sizeAt P e = some s) (lo hi : Option Value) (hlo : lo = some (.int .i64 l) ∨ lo = none) (hhi : hi = some (.int .i64 h) ∨ hi = none) (hl : l = 0) (hh : h = 0) (w : World) :
    (Instr.sliceAt t (.slice none 0 0) lo hi none).run P w = .ok (.slice none 0 0) w := by
  subst hl hh
  rcases hlo with rfl | rfl <;> rcases hhi with rfl | rfl <;>
    simp [Instr.sliceAt, Instr.slice, run_underlying' hu, Instr.sliceBounds, Instr.sliceBound, asIntOf, run_sizeOf hs]
end

/-! ### Slices that are read -/
/-- A slice of m elements, its cells. -/
def Sees (w : World) (v : Value) (m : Nat) (l : List Value) : Prop :=
  (v = .slice none 0 0 ∧ m = 0 ∧ l = []) ∨ ∃ a c, v = .slice (some a) m c ∧ m ≤ c ∧ c ≤ maxLen ∧ ∀ j u, l[j]? = some u → w.cell? (a.add j) = some u
theorem Sees.ext {w w' : World} {v : Value} {m : Nat} {l : List Value} (h : Sees w v m l) (hx : Ext w w') : Sees w' v m l := by
  rcases h with h | ⟨a, c, h1, h2, h3, h4⟩
  · exact .inl h
  · exact .inr ⟨a, c, h1, h2, h3, fun j u hj => cell_ext hx (h4 j u hj)⟩
theorem Sees.kept {w w' : World} {v : Value} {m : Nat} {l : List Value} {row : Option Nat} (h : Sees w v m l) (hg : w.grownBy w' row) (hne : ∀ g, row = some g → v.ownBlock ≠ some g) : Sees w' v m l := by
  rcases h with h | ⟨a, c, h1, h2, h3, h4⟩
  · exact .inl h
  · refine .inr ⟨a, c, h1, h2, h3, fun j u hj => hg.cell (h4 j u hj) fun e => ?_⟩
    subst h1
    have hb : (a.add j).block = a.block := by unfold Addr.add; split <;> rfl
    exact hne a.block (by rw [← e, hb]) rfl
theorem Sees.len {w : World} {v : Value} {m : Nat} {l : List Value} (h : Sees w v m l) : m ≤ 9223372036854775807 := by
  rcases h with ⟨_, rfl, _⟩ | ⟨_, c, _, h2, h3, _⟩
  · omega
  · simp only [maxLen] at h3; omega

/-- A row of the call's own, to be appended to. -/
abbrev Own (w : World) (e : TypeId) (s : Nat) (v : Value) (n : Nat) (l : List Value) : Prop := w.ownsRow 0 e s v n l
theorem Own.nil (w : World) (e : TypeId) (s : Nat) : Own w e s (.slice none 0 0) 0 [] := World.ownsRow_nil w 0 e s
theorem Own.sees {w : World} {e : TypeId} {s : Nat} {v : Value} {n : Nat} {l : List Value} (h : Own w e s v n l) : Sees w v n l := by
  rcases h.2 with ⟨rfl, rfl⟩ | ⟨g, cap, cur, rfl, _, hg, h1, h2, _⟩
  · exact .inl ⟨rfl, rfl, List.eq_nil_of_length_eq_zero (by simpa using h.1)⟩
  · exact .inr ⟨⟨g, 0, none⟩, cap, rfl, h1, h2, World.ownsRow.cells h (g := g) rfl⟩
theorem Own.lt {w : World} {e : TypeId} {s : Nat} {v : Value} {n : Nat} {l : List Value} (h : Own w e s v n l) {g : Nat} (hg : v.ownBlock = some g) : g < w.heap.size := (World.ownsRow.lt h g hg).2
theorem Own.new {w w' : World} {e : TypeId} {s n : Nat} {l : List Value} (h : New w w' l e) (hl : l.length = n * s) (hm : n ≤ maxLen) : Own w' e s (.slice (some ⟨w.heap.size, 0, none⟩) n n) n l :=
  ⟨hl, .inr ⟨_, _, _, rfl, Nat.zero_le _, h.blk, Nat.le_refl _, hm, by simpa using hl, List.take_of_length_le (by simp [hl])⟩⟩
theorem Own.room {w w' : World} {e : TypeId} {s c : Nat} {l : List Value} (h : New w w' l e) (hl : l.length = c * s) (hm : c ≤ maxLen) : Own w' e s (.slice (some ⟨w.heap.size, 0, none⟩) 0 c) 0 [] :=
  ⟨by simp, .inr ⟨_, _, _, rfl, Nat.zero_le _, h.blk, Nat.zero_le _, hm, by simpa using hl, by simp⟩⟩
theorem Own.kept {w w' : World} {e : TypeId} {s : Nat} {v : Value} {n : Nat} {l : List Value} {row : Option Nat} (h : Own w e s v n l) (hg : w.grownBy w' row) (hne : ∀ g, row = some g → v.ownBlock ≠ some g) : Own w' e s v n l :=
  World.ownsRow.kept h hg (by cases hr : row with | none => (cases hv : v.ownBlock <;> simp) | some g => exact .inr (hne g hr))
theorem Own.ext {w w' : World} {e : TypeId} {s : Nat} {v : Value} {n : Nat} {l : List Value} (h : Own w e s v n l) (hx : Ext w w') : Own w' e s v n l := Own.kept h (grown_of_ext hx none) (fun _ e => by cases e)

section
variable {P : Program} {w w' : World} {K : Value → World → Prop} {Kp : List PanicEntry → World → Prop} {t ty e : TypeId}
theorem DoN_of_value {s : Sem Value} (h : Do P s w K Kp) : DoN P (s.bind fun v => Sem.pure (Next.value v)) w K Kp := DoN_value h
/-- append onto a row of one's own. -/
theorem DoN_append {s bytes n m : Nat} {z xs news : List Value} {v u : Value} {fl : Array Bool} (hu : P.underlying t = some (.slice e)) (he : rowIs P e s bytes z) (hz : z.length = s) (hs : 0 < s)
    (hown : Own w e s v n xs) (hsees : Sees w u m news) (hl : news.length = m * s) (h1 : ∀ u ∈ news, u.oneCell' = true) (hb : (n + m) * bytes ≤ 140737488355328) (hm : n + m ≤ 9223372036854775807)
    (hk : ∀ v' w', Own w' e s v' (n + m) (xs ++ news) → w.grownBy w' v.ownBlock → (v'.ownBlock = v.ownBlock ∨ v'.ownBlock = some w.heap.size) → (v' = .slice none 0 0 ↔ v = .slice none 0 0 ∧ m = 0) → K v' w') :
    DoN P (builtin .append #[t, t] ty fl #[v, u]) w K Kp := by
  obtain ⟨i, zv, hi, hzz, hsz, hby, hv⟩ := he
  refine DoN_value ?_
  rcases hsees with ⟨rfl, rfl, rfl⟩ | ⟨a, c, rfl, h2, h3, h4⟩
  · refine Do_of (run_append_owned_none (P := P) (w := w) 0 t ty e i s hu hi v n xs hown) (hk _ _ (by simpa using hown) ⟨rfl, rfl, rfl, Nat.le_refl _, fun _ _ _ => rfl⟩ (.inl rfl) (by simp))
  · obtain ⟨v', w', hr, ho, hg, hnil, hbl⟩ := run_append_own_at (P := P) w 0 t ty e i zv s bytes hu hi hzz hsz hby (by rw [hv]; simpa using hz) hs v n xs hown a m c news hl h4 h1 (by simp only [maxLen]; omega) hb (Nat.zero_le _)
    exact Do_of hr (hk _ _ ho hg hbl hnil)
theorem run_value {s : Sem Value} {v : Value} (h : s.run P w = .ok v w') : (s.bind fun v => Sem.pure (Next.value v)).run P w = .ok (.value v) w' := by rw [Vc.run_bind, h]; rfl
theorem run_len {m : Nat} {l : List Value} {v : Value} {fl : Array Bool} (hu : P.underlying t = some (.slice e)) (h : Sees w v m l) (w' : World) : (builtin .len #[t] ty fl #[v]).run P w' = .ok (.value (i64 m)) w' := by
  refine run_value ?_
  rcases h with ⟨rfl, rfl, _⟩ | ⟨a, c, rfl, _⟩ <;> simp [Builtin.len_, run_underlying' hu, goInt]
theorem run_lenStr {b : ByteArray} {fl : Array Bool} (hu : P.underlying t = some .string) (w : World) : (builtin .len #[t] ty fl #[.string b]).run P w = .ok (.value (i64 b.size)) w := by
  refine run_value ?_
  simp [Builtin.len_, run_underlying' hu, goInt]
theorem run_min {k : IntKind} {a b : Int} {ts : Array TypeId} {fl : Array Bool} (w : World) : (builtin .min ts ty fl #[.int k a, .int k b]).run P w = .ok (.value (.int k (if b < a then b else a))) w := rfl
end
end Go.Vc
