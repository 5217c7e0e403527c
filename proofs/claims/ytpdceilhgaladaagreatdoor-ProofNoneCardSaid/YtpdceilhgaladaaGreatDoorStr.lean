/- Strings of the library that the program calls: Clone. -/
import Derived.Test.YtpdceilhgaladaaGreatDoorVMerkle
import Derived.Test.YtpdceilhgaladaaGreatDoorMap
import Derived.Test.YtpdceilhgaladaaGreatDoorHash
import Derived.Lib.BufferWrite
import Derived.Lib.UnsafeStr
namespace Go.Vc
open Go.RowKit
section
variable {P : Program} {w : World} {K : Value → World → Prop} {Kp : List PanicEntry → World → Prop} {t e : TypeId}
theorem pu_lenStr {ty : TypeId} {b : ByteArray} {fl : Array Bool} (hu : P.underlying t = some .string) : PuN P (builtin .len #[t] ty fl #[.string b]) (i64 b.size) := run_lenStr hu
/-- A string's bytes copied into a block. -/
theorem DoN_copyStr {g dn dc : Nat} {s : ByteArray} {cur : List Value} {tb t' ty : TypeId} {fl : Array Bool} (hu : P.underlying t = some (.slice e)) (hs : sizeAt P e = some 1) (hg : Blk w g cur tb) (hn : s.size = dn) (hfit : cur.length = s.size)
    (hk : ∀ w', Blk w' g (s.data.toList.map u8) tb → w.grownBy w' (some g) → K (i64 s.size) w') :
    DoN P (builtin .copy #[t, t'] ty fl #[.slice (some ⟨g, 0, none⟩) dn dc, .string s]) w K Kp := by
  have := Lib.run_copy_row_string (P := P) w t t' ty e g 0 dn dc s cur.toArray tb hu hs hg (by omega) (by simp; omega)
  refine DoN_value (Do_of this (hk _ ?_ (grown_setRow g _)))
  have e1 : (cur.toArray.toList.take 0 ++ Lib.byteCells s.data.toList ++ cur.toArray.toList.drop (0 + s.size)) = s.data.toList.map u8 := by
    rw [List.drop_of_length_le (by simp; omega)]
    simp [Lib.byteCells, u8]
  rw [e1]
  exact hg.setRow _
theorem Ext.freeze {w0 w : World} (h : Ext w0 w) {a : Addr} (ha : w0.heap.size ≤ a.block) (n : Nat) : Ext w0 (w.freeze a n) := Lib.below_freeze h ha n
end
end Go.Vc

namespace Go.Proofs.YtpdceilhgaladaaGreatDoor
open Go.Vc Go.RowKit
theorem liteClone_c (s : ByteArray) (hs : s.size ≤ 70368744177664) (w : World) : Calls Tryz.prog 90 #[.string s] w (Ret fun v w' => v = .string s ∧ Ext w w') := by
  refine vc_internal_stringslite_Clone ?_
  unfold V_internal_stringslite_Clone
  refine DoN_pu (pu_lenStr Tryz.underlying9) ?_
  refine Do_pu pu_eql (CondV_b (fun hc => ?_) fun hc => ?_)
  · have h0 : s.size = 0 := by simpa using hc
    have : s = ⟨#[]⟩ := by apply ByteArray.ext; exact Array.eq_empty_of_size_eq_zero h0
    exact Ret.of ⟨by rw [this], Ext.refl _⟩
  · have h0 : s.size ≠ 0 := by simpa using hc
    refine DoN_pu (pu_lenStr Tryz.underlying9) ?_
    refine Do_makeSlice Tryz.underlying22 row8 (Nat.le_refl _) (by omega) (by omega) fun w4 n4 => ?_
    refine DoN_copyStr Tryz.underlying22 (by kernel_rfl) n4.blk rfl (by simp [madeCells]) fun w5 hb5 hg5 => ?_
    refine Do_pu (pu_indexSl Tryz.underlying22 (s := 1) (by kernel_rfl) (by omega) (by omega)) ?_
    refine DoN_pu (pu_len Tryz.underlying22 (Own.sees (Own.new n4 (n := s.size) (s := 1) (by simp [madeCells]) (by simp only [maxLen]; omega)))) ?_
    have hl : s.data.toList.length = s.size := (Lib.size_eq s).symm
    have hshape : w5.shape? w.heap.size = some (5, s.size) := by
      unfold World.shape?
      rw [show w5.heap[w.heap.size]? = _ from hb5]
      show some (_, ((s.data.toList.map u8).toArray).size) = _
      rw [List.size_toArray, List.length_map, hl]
    have hus := Lib.run_unsafeString_row (P := Tryz.prog) w5 190 3 9 5 Tryz.underlying190 (by kernel_rfl) w.heap.size s.size hshape s.data.toList (by intro e; rw [e] at hl; simp at hl; omega) (by omega) (by omega)
      (fun j x hx => by rw [add_off, hb5.cell, Nat.zero_add]; simp [u8, hx])
    rw [hl] at hus
    refine DoN_value (Do_of (v := .string s) (w' := w5.freeze ⟨w.heap.size, 0, none⟩ s.size) ?_ ?_)
    · simpa [add_zero_] using hus
    · exact Ret.of ⟨rfl, Ext.freeze (n4.ext.grown hg5 (fun g e => by cases e; exact Nat.le_refl _)) (Nat.le_refl _) _⟩
theorem strClone_c (s : ByteArray) (hs : s.size ≤ 70368744177664) (w : World) : Calls Tryz.prog 55 #[.string s] w (Ret fun v w' => v = .string s ∧ Ext w w') := by
  refine vc_strings_Clone ?_
  unfold V_strings_Clone
  exact CallS_r (liteClone_c s hs w) fun v w' h => Ret.of h
end Go.Proofs.YtpdceilhgaladaaGreatDoor
