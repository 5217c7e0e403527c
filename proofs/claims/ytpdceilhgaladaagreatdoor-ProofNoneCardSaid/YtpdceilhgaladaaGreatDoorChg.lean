/- Comparisons with nil, structs that are built, and how a world may have changed. -/
import Derived.Test.YtpdceilhgaladaaGreatDoorPu
import Derived.Laws.Cover3
import Derived.Laws.Pointers
namespace Go.Vc
open Go.RowKit
section
variable {P : Program} {w : World} {t e : TypeId}
theorem equalIn_ptr (d : Nat) {p : Option Addr} (hu : P.underlying t = some (.pointer e)) (w : World) : (Op.equalIn (d + 1) t (.pointer p) (.pointer none)).run P w = .ok p.isNone w := by
  cases p <;> simp [Op.equalIn, run_underlying' hu]
theorem equal_ptr {p : Option Addr} (hu : P.underlying t = some (.pointer e)) (w : World) : (Op.equal t (.pointer p) (.pointer none)).run P w = .ok p.isNone w := equalIn_ptr 9999 hu w
theorem pu_ptreq {p : Option Addr} {x y : Operand} (hu : P.underlying t = some (.pointer e)) : Pu P (do eqGuard .eql t x y (.pointer p) (.pointer none); binOp .eql t (.pointer p) (.pointer none) : Sem Value) (.bool p.isNone) := fun w => by
  simp [eqGuard, binOp, equal_ptr hu]
theorem pu_ptrne {p : Option Addr} {x y : Operand} (hu : P.underlying t = some (.pointer e)) : Pu P (do eqGuard .neq t x y (.pointer p) (.pointer none); binOp .neq t (.pointer p) (.pointer none) : Sem Value) (.bool p.isSome) := fun w => by
  cases p <;> simp [eqGuard, binOp, equal_ptr hu]
theorem pu_sleq {a : Option Addr} {n c : Nat} {x y : Operand} (hu : P.underlying t = some (.slice e)) : Pu P (do eqGuard .eql t x y (.slice a n c) (.slice none 0 0); binOp .eql t (.slice a n c) (.slice none 0 0) : Sem Value) (.bool a.isNone) := fun w => by
  simp [eqGuard, binOp, run_equal_slice_nil w t e a n c hu]
theorem pu_slne {a : Option Addr} {n c : Nat} {x y : Operand} (hu : P.underlying t = some (.slice e)) : Pu P (do eqGuard .neq t x y (.slice a n c) (.slice none 0 0); binOp .neq t (.slice a n c) (.slice none 0 0) : Sem Value) (.bool a.isSome) := fun w => by
  cases a <;> simp [eqGuard, binOp, run_equal_slice_nil w t e _ n c hu]
theorem pu_mapeq {k : TypeId} {m : Option Nat} {x y : Operand} (hu : P.underlying t = some (.map k e)) : Pu P (do eqGuard .eql t x y (.map m) (.map none); binOp .eql t (.map m) (.map none) : Sem Value) (.bool m.isNone) := fun w => by
  simp [eqGuard, binOp, run_equal_map_nil w t k e m hu]
theorem pu_mapne {k : TypeId} {m : Option Nat} {x y : Operand} (hu : P.underlying t = some (.map k e)) : Pu P (do eqGuard .neq t x y (.map m) (.map none); binOp .neq t (.map m) (.map none) : Sem Value) (.bool m.isSome) := fun w => by
  cases m <;> simp [eqGuard, binOp, run_equal_map_nil w t k e _ hu]
theorem pu_streq {a b : ByteArray} {x y : Operand} : Pu P (do eqGuard .eql t x y (.string a) (.string b); binOp .eql t (.string a) (.string b) : Sem Value) (.bool (a.toList == b.toList)) := fun w => by simp [eqGuard, binOp, Op.stringOp]
theorem pu_strne {a b : ByteArray} {x y : Operand} : Pu P (do eqGuard .neq t x y (.string a) (.string b); binOp .neq t (.string a) (.string b) : Sem Value) (.bool (a.toList != b.toList)) := fun w => by simp [eqGuard, binOp, Op.stringOp, bne]
theorem pu_booleq {a b : Bool} {x y : Operand} (hu : P.underlying t = some .bool) : Pu P (do eqGuard .eql t x y (.bool a) (.bool b); binOp .eql t (.bool a) (.bool b) : Sem Value) (.bool (a == b)) := fun w => by
  simp [eqGuard, binOp, run_equal_bool w t a b hu]

/-- Slots and zeros of a struct that is built. -/
theorem mapM_ok {α β : Type} {f : α → Sem β} {g : α → β} (w : World) : ∀ (l : List α), (∀ x ∈ l, (f x).run P w = .ok (g x) w) → (l.mapM f).run P w = .ok (l.map g) w
  | [], _ => rfl
  | x :: l, h => by
    have ih := mapM_ok w l fun y hy => h y (List.mem_cons_of_mem _ hy)
    simp only [List.mapM_cons, Sem.run_bind, h x (List.mem_cons_self ..), Result.andThen, ih]
    rfl
def placesAt (P : Program) (fs : List Field) : List (Nat × Nat) := fs.map fun f => (f.offset, (sizeAt P f.type).getD 0)
theorem run_buildS {fs : Array Field} {zero cells : List Value} {parts : Array (Nat × Value)} (hu : P.underlying t = some (.struct fs)) (hz : zeroAt P t = some zero) (hs : (fs.toList.all fun f => (sizeAt P f.type).isSome) = true)
    (hf : Instr.fill (fun x => (placesAt P fs.toList)[x]?) zero.toArray parts.toList = some cells.toArray) (w : World) : (Instr.build t parts).run P w = .ok (.agg cells.toArray) w := by
  obtain ⟨v, hv, hr⟩ := run_zero hz
  have hm : (fs.mapM fun f => do pure (f.offset, ← sizeOf f.type) : Sem (Array (Nat × Nat))).run P w = .ok (placesAt P fs.toList).toArray w := by
    rw [Array.mapM_eq_mapM_toList]
    have := mapM_ok (P := P) (f := fun f : Field => (do pure (f.offset, ← sizeOf f.type) : Sem (Nat × Nat))) (g := fun f => (f.offset, (sizeAt P f.type).getD 0)) w fs.toList (fun x hx => by
      rw [List.all_eq_true] at hs
      have := hs x hx
      obtain ⟨n, hn⟩ := Option.isSome_iff_exists.1 this
      simp [run_sizeOf hn, hn])
    simp only [placesAt] at this ⊢
    simp at this ⊢
    simp [this]
  simp only [bind_pure_comp] at hm
  simp [Instr.build, hr, run_underlying' hu, hv, hm, hf]
end

/-! ### What may have changed -/
/-- Blocks below the heap's end have changed only where told. -/
structure Chg (w w' : World) (S : Nat → Prop) : Prop where
  os : w'.os = w.os
  tape : w'.tape = w.tape
  output : w'.output = w.output
  size : w.heap.size ≤ w'.heap.size
  block : ∀ k, k < w.heap.size → ¬ S k → w'.heap[k]? = w.heap[k]?
theorem Chg.refl (w : World) (S : Nat → Prop) : Chg w w S := ⟨rfl, rfl, rfl, Nat.le_refl _, fun _ _ _ => rfl⟩
theorem Chg.ext {w w' w'' : World} {S : Nat → Prop} (h : Chg w w' S) (k : Ext w' w'') : Chg w w'' S :=
  ⟨k.os.trans h.os, k.tape.trans h.tape, k.output.trans h.output, Nat.le_trans h.size k.size, fun i hi hn => (k.block i (Nat.lt_of_lt_of_le hi h.size)).trans (h.block i hi hn)⟩
theorem Chg.grown {w w' w'' : World} {S : Nat → Prop} {row : Option Nat} (h : Chg w w' S) (k : w'.grownBy w'' row) (hr : ∀ g, row = some g → g < w.heap.size → S g) : Chg w w'' S :=
  ⟨k.os.trans h.os, k.tape.trans h.tape, k.output.trans h.output, Nat.le_trans h.size k.size, fun i hi hn => (k.block i (Nat.lt_of_lt_of_le hi h.size) (fun e => hn (hr i e.symm hi))).trans (h.block i hi hn)⟩
theorem Chg.trans {w w' w'' : World} {S S' : Nat → Prop} (h : Chg w w' S) (k : Chg w' w'' S') (hs : ∀ g, g < w.heap.size → S' g → S g) : Chg w w'' S :=
  ⟨k.os.trans h.os, k.tape.trans h.tape, k.output.trans h.output, Nat.le_trans h.size k.size, fun i hi hn => (k.block i (Nat.lt_of_lt_of_le hi h.size) (fun e => hn (hs i hi e))).trans (h.block i hi hn)⟩
theorem Chg.toExt {w w' : World} {S : Nat → Prop} (h : Chg w w' S) (hs : ∀ g, g < w.heap.size → ¬ S g) : Ext w w' := ⟨h.os, h.tape, h.output, h.size, fun k hk => h.block k hk (hs k hk)⟩
/-- From an earlier world on. -/
theorem Ext.chg {w w' w'' : World} {S : Nat → Prop} (h : Ext w w') (k : Chg w' w'' S) (hs : ∀ g, S g → w.heap.size ≤ g) : Ext w w'' :=
  ⟨k.os.trans h.os, k.tape.trans h.tape, k.output.trans h.output, Nat.le_trans h.size k.size, fun i hi => (k.block i (Nat.lt_of_lt_of_le hi h.size) (fun e => absurd (hs i e) (by omega))).trans (h.block i hi)⟩
theorem Chg.cell {w w' : World} {S : Nat → Prop} (h : Chg w w' S) {a : Addr} {v : Value} (hc : w.cell? a = some v) (hs : ¬ S a.block) : w'.cell? a = some v :=
  (World.cell?_of_block (h.block a.block (World.block_lt_of_cell? w a hc) hs)).trans hc
theorem Blk.chg {w w' : World} {S : Nat → Prop} {g : Nat} {l : List Value} {t : TypeId} (hb : Blk w g l t) (h : Chg w w' S) (hs : ¬ S g) : Blk w' g l t := (h.block g hb.lt hs).trans hb
theorem Sees.chg {w w' : World} {S : Nat → Prop} {v : Value} {m : Nat} {l : List Value} (hv : Sees w v m l) (h : Chg w w' S) (hs : l ≠ [] → ∀ g, v.ownBlock = some g → ¬ S g) : Sees w' v m l := by
  rcases hv with hv | ⟨a, c, h1, h2, h3, h4⟩
  · exact .inl hv
  · refine .inr ⟨a, c, h1, h2, h3, fun j u hj => h.cell (h4 j u hj) ?_⟩
    subst h1
    have hb : (a.add j).block = a.block := by unfold Addr.add; split <;> rfl
    rw [hb]; exact hs (fun e => by rw [e] at hj; simp at hj) a.block rfl
theorem Sees.lt {w : World} {v : Value} {m : Nat} {l : List Value} (hv : Sees w v m l) (hl : l ≠ []) {g : Nat} (hg : v.ownBlock = some g) : g < w.heap.size := by
  rcases hv with ⟨rfl, _⟩ | ⟨a, c, rfl, h2, h3, h4⟩
  · cases hg
  · cases hg
    cases l with
    | nil => exact absurd rfl hl
    | cons u l =>
      have := World.block_lt_of_cell? w _ (h4 0 u rfl)
      have hb : (a.add 0).block = a.block := by unfold Addr.add; split <;> rfl
      rw [hb] at this; exact this
theorem Own.chg {w w' : World} {S : Nat → Prop} {e : TypeId} {s n : Nat} {v : Value} {l : List Value} (hv : Own w e s v n l) (h : Chg w w' S) (hs : ∀ g, v.ownBlock = some g → ¬ S g) : Own w' e s v n l := by
  refine ⟨hv.1, ?_⟩
  rcases hv.2 with hn | ⟨g, cap, cur, rfl, hb, hgg, rest⟩
  · exact .inl hn
  · exact .inr ⟨g, cap, cur, rfl, hb, (h.block g (Array.getElem?_eq_some_iff.1 hgg).1 (hs g rfl)).trans hgg, rest⟩
/-- The first elements of one's own row. -/
theorem Own.sliceTo {P : Program} {w : World} {t e : TypeId} {s n k : Nat} {v : Value} {l : List Value} (hv : Own w e s v n l) (hu : P.underlying t = some (.slice e)) (hs : sizeAt P e = some s) (hk : k ≤ n) :
    ∃ v', Pu P (Instr.sliceAt t v none (some (i64 k)) none) v' ∧ Own w e s v' k (l.take (k * s)) ∧ v'.ownBlock = v.ownBlock := by
  rcases hv.2 with ⟨rfl, rfl⟩ | ⟨g, cap, cur, rfl, hb, hg, h1, h2, h3, h4⟩
  · obtain rfl : k = 0 := by omega
    exact ⟨_, fun w => run_sliceNil hu hs none _ (.inr rfl) (.inl rfl) rfl rfl w, by simpa using World.ownsRow_nil w 0 e s, rfl⟩
  · refine ⟨_, fun w => run_sliceSl (l := 0) hu hs none _ (.inr ⟨rfl, rfl⟩) (.inl rfl) (Nat.zero_le _) (by omega) w, ⟨?_, .inr ⟨g, cap, cur, ?_, hb, hg, by omega, h2, h3, ?_⟩⟩, ?_⟩
    · have := hv.1
      rw [List.length_take, this]
      exact Nat.min_eq_left (Nat.mul_le_mul_right _ hk)
    · simp [add_zero_]
    · rw [← h4, List.take_take, Nat.min_eq_left (Nat.mul_le_mul_right _ hk)]
    · simp [Value.ownBlock, add_zero_]
end Go.Vc
