/- wire: numbers, parts joined, bytes with their length ahead. -/
import Derived.Test.YtpdceilhgaladaaGreatDoorVSib
import Derived.Test.YtpdceilhgaladaaGreatDoorBits
namespace Go.Proofs.YtpdceilhgaladaaGreatDoor
open Go.Vc Go.Vc.Sha Go.RowKit
theorem pu_capNil {P : Program} {t ty e : TypeId} {fl : Array Bool} (hu : P.underlying t = some (.slice e)) : PuN P (builtin .cap #[t] ty fl #[nilS_]) (i64 0) := fun w => run_value (by simp [Builtin.cap_, run_underlying' hu]; rfl)
/-- Room for bytes. -/
theorem grow0_c (n : Nat) (hn : n ≤ 70368744177664) (w : World) : Calls Tryz.prog 149 #[nilS_, i64 n] w (Ret fun v w' => Own w' 5 1 v 0 [] ∧ Ext w w' ∧ Late w v) := by
  refine vc_slices_Grow_byte_byte ?_
  unfold V_slices_Grow_byte_byte
  refine ⟨fun _ z => z = w, ?_, ?_⟩
  · exact Do_pu pu_lss (CondV_if (fun h => by omega) fun _ => rfl)
  rintro _ w4 rfl
  refine DoN_pu (pu_capNil Tryz.underlying22) ?_
  refine DoN_pu (pu_len Tryz.underlying22 (Sees.nil w4)) ?_
  refine Do_pu (pu_isub (by omega) (by omega)) ?_
  refine Do_pu (pu_isub (by omega) (by omega)) ?_
  have e : ((n : Int) - (0 - (0 : Nat))) = ((n : Nat) : Int) := by omega
  rw [e]
  refine Do_pu pu_gtr (CondV_if (fun h => ?_) fun h => ?_)
  · refine DoN_pu (pu_capNil Tryz.underlying22) ?_
    refine Do_of (run_sliceNil (l := 0) (h := 0) Tryz.underlying22 (s := 1) (by kernel_rfl) none (some (i64 0)) (.inr rfl) (.inl rfl) rfl rfl w4) ?_
    refine DoN_appendZ Tryz.underlying22 Tryz.underlying3 row8 rfl (Own.nil w4 _ _) (by omega) (by omega) (by omega) fun v5 w5 ho hg hbl => ?_
    refine DoN_pu (pu_len Tryz.underlying22 (Sees.nil w4)) ?_
    obtain ⟨v6, hp, ho6, hb6⟩ := ho.sliceTo (P := Tryz.prog) (k := 0) Tryz.underlying22 (by kernel_rfl) (Nat.zero_le _)
    refine Do_pu hp (Ret.of ⟨by simpa using ho6, Ext.of_grown hg, fun g hgg => ?_⟩)
    rw [hb6] at hgg
    rcases hbl with h | h
    · rw [h] at hgg; cases hgg
    · rw [h] at hgg; cases hgg; exact Nat.le_refl _
  · exact Ret.of ⟨Own.nil _ _ _, Ext.refl _, fun g hg => by cases hg⟩
theorem take_flat (parts : List (List UInt8)) (i : Nat) (h : i < parts.length) : (parts.take (i + 1)).flatten = (parts.take i).flatten ++ parts[i] := by
  rw [List.take_succ_eq_append_getElem h, List.flatten_append]; simp
theorem flat_le (parts : List (List UInt8)) (i : Nat) : (parts.take i).flatten.length ≤ parts.flatten.length := by
  have e : parts = parts.take i ++ parts.drop i := (List.take_append_drop i parts).symm
  have : parts.flatten.length = (parts.take i).flatten.length + (parts.drop i).flatten.length := by
    conv => lhs; rw [e, List.flatten_append, List.length_append]
  omega
/-- Parts, one behind the other. -/
theorem concat_c {w : World} {pv : Value} {parts : List (List UInt8)} {vs : List Value} (hpv : Sees w pv parts.length vs) (hs : AllSee w vs parts) (hlen : parts.flatten.length ≤ 35184372088832) :
    Calls Tryz.prog 115 #[pv] w (Ret fun v w' => Own w' 5 1 v parts.flatten.length (parts.flatten.map u8) ∧ Ext w w' ∧ Late w v) := by
  have hnp := hpv.len
  refine vc_slices_Concat_byte_byte ?_
  unfold V_slices_Concat_byte_byte
  have at_ : ∀ {z : World} (hx : Ext w z) {i : Nat} (hi : i < parts.length), ∃ u, vs[i]? = some u ∧ SeesB z u parts[i] := fun {_} hx {i} hi => by
    have hv : i < vs.length := by rw [hs.len]; exact hi
    exact ⟨vs[i], by simp [hv], (hs.at_ i _ _ (by simp [hv]) (by simp [hi])).ext hx⟩
  refine DoN_pu (pu_len Tryz.underlying55 hpv) ?_
  refine ⟨fun m xs z => ∃ i, m = parts.length - i ∧ i ≤ parts.length ∧ xs = [i64 (parts.take i).flatten.length, i64 i] ∧ z = w, ⟨_, 0, rfl, by omega, by simp, rfl⟩, ?_⟩
  rintro m1 x3 x11 j1 w2 ⟨i, rfl, hi, hx, rfl⟩
  obtain ⟨rfl, rfl⟩ : x3 = i64 (parts.take i).flatten.length ∧ x11 = i64 i := by simpa using hx
  refine Do_pu pu_lss (CondV_if (fun hlt => ?_) fun hlt => ?_)
  · have hlt : i < parts.length := by omega
    obtain ⟨u, hu, hsu⟩ := at_ (Ext.refl _) hlt
    have hle := flat_le parts (i + 1)
    rw [take_flat parts i hlt, List.length_append] at hle
    refine Do_of (hpv.indexP (s := 1) Tryz.underlying55 (by kernel_rfl) hlt (hn := rfl) w2) ?_
    refine Do_of (hpv.loadP (u := u) Tryz.underlying22 rfl (by simpa using hu)) ?_
    refine DoN_pu (pu_len Tryz.underlying22 hsu) ?_
    refine Do_pu (pu_iadd (by omega) (by omega)) ?_
    refine Do_pu pu_lss (CondV_if (fun h => by omega) fun _ => ?_)
    refine Do_pu (pu_iadd (by omega) (by omega)) ⟨parts.length - (i + 1), by omega, i + 1, rfl, by omega, ?_, rfl⟩
    rw [take_flat parts i hlt, List.length_append]
    simp
  · obtain rfl : i = parts.length := by omega
    rw [List.take_length]
    refine CallS_r (grow0_c _ (by omega) w2) fun x24 w13 hh => ?_
    obtain ⟨ho, hx13, hl⟩ := hh
    refine DoN_pu (pu_len Tryz.underlying55 hpv) ?_
    refine ⟨fun m xs z => ∃ i v, m = parts.length - i ∧ i ≤ parts.length ∧ xs = [v, i64 i] ∧ Own z 5 1 v (parts.take i).flatten.length ((parts.take i).flatten.map u8) ∧ Ext w2 z ∧ Late w2 v, ⟨_, 0, x24, rfl, by omega, rfl, by simpa using ho, hx13, hl⟩, ?_⟩
    rintro m2 x6 x27 j2 w15 ⟨i, v, rfl, hi, hx, ho15, hx15, hl15⟩
    obtain ⟨rfl, rfl⟩ : x6 = v ∧ x27 = i64 i := by simpa using hx
    refine Do_pu pu_lss (CondV_if (fun hlt => ?_) fun hlt => ?_)
    · have hlt : i < parts.length := by omega
      obtain ⟨u, hu, hsu⟩ := at_ hx15 hlt
      have hle := flat_le parts (i + 1)
      rw [take_flat parts i hlt, List.length_append] at hle
      refine Do_of ((hpv.ext hx15).indexP (s := 1) Tryz.underlying55 (by kernel_rfl) hlt (hn := rfl) w15) ?_
      refine Do_of ((hpv.ext hx15).loadP (u := u) Tryz.underlying22 rfl (by simpa using hu)) ?_
      refine DoN_append (s := 1) Tryz.underlying22 row8 rfl (by omega) ho15 hsu (by simp) (one_u8 _) (by omega) (by omega) fun v' w19 ho19 hg19 hbl _ => ?_
      refine Do_pu (pu_iadd (by omega) (by omega)) ⟨parts.length - (i + 1), by omega, i + 1, v', rfl, by omega, rfl, ?_, hx15.grown hg19 hl15, ?_⟩
      · rw [take_flat parts i hlt, List.length_append, List.map_append]
        exact ho19
      · exact hl15.append hx15.size hbl
    · obtain rfl : i = parts.length := by omega
      rw [List.take_length] at ho15
      exact Ret.of ⟨ho15, hx15, hl15⟩
theorem join_c {w : World} {pv : Value} {parts : List (List UInt8)} {vs : List Value} (hpv : Sees w pv parts.length vs) (hs : AllSee w vs parts) (hlen : parts.flatten.length ≤ 35184372088832) :
    Calls Tryz.prog 77 #[pv] w (Ret fun v w' => Own w' 5 1 v parts.flatten.length (parts.flatten.map u8) ∧ Ext w w' ∧ Late w v) := by
  refine vc_wire_Join ?_
  unfold V_wire_Join
  exact CallS_r (concat_c hpv hs hlen) fun v w1 hh => Ret.of hh
/-- A number's bytes. -/
def numS (n : Nat) : List UInt8 := be8 (UInt64.ofNat n)
theorem numS_len (n : Nat) : (numS n).length = 8 := rfl
theorem number_c (n : Nat) (hn : n ≤ 9223372036854775807) (w : World) : Calls Tryz.prog 113 #[i64 n] w (Ret fun v w' => Own w' 5 1 v 8 ((numS n).map u8) ∧ Ext w w' ∧ Late w v) := by
  refine vc_wire_Number ?_
  unfold V_wire_Number
  refine Do_makeSlice Tryz.underlying22 row8 (l := 8) (c := 8) (Nat.le_refl _) (by omega) (by omega) fun w1 n1 => ?_
  refine DoN_pu (pu_len Tryz.underlying22 (m := 8) (Own.sees (Own.new n1 (n := 8) (s := 1) (by simp [madeCells]) (by simp only [maxLen]; omega)))) ?_
  have hz : (madeCells [u8 0].toArray 8).toList = List.replicate 8 (u8 0) := by kernel_rfl
  have hb1 : Blk w1 w.heap.size (List.replicate 8 (u8 0)) 5 := by have := n1.blk; rwa [hz] at this
  refine ⟨fun m xs z => ∃ i, m = 8 - i ∧ i ≤ 8 ∧ xs = [i64 i] ∧ Blk z w.heap.size ((List.replicate (8 - i) 0 ++ (numS n).drop (8 - i)).map u8) 5 ∧ Ext w z, ⟨_, 0, rfl, by omega, rfl, by rw [show (numS n).drop (8 - 0) = [] from rfl]; simpa using hb1, n1.ext⟩, ?_⟩
  rintro m1 x8 j1 w3 ⟨i, rfl, hi, hx, hb, hx3⟩
  obtain rfl : x8 = i64 i := by simpa using hx
  refine Do_pu pu_lss (CondV_if (fun hlt => ?_) fun hlt => ?_)
  · have hlt : i < 8 := by omega
    refine Do_pu (pu_isub (by omega) (by omega)) ?_
    refine Do_pu (pu_i64u64 Tryz.underlying3 Tryz.underlying191) ?_
    refine Do_pu (pu_imul (by omega) (by omega)) ?_
    refine Do_pu (pu_ushr (by omega) (by omega)) ?_
    refine Do_pu (pu_u64u8 Tryz.underlying191 Tryz.underlying5) ?_
    have e7 : (7 : Int) - (i : Int) = ((7 - i : Nat) : Int) := by omega
    rw [e7]
    refine Do_pu (pu_indexSl Tryz.underlying22 (s := 1) (n := 8) (by kernel_rfl) (by omega) (by omega)) ?_
    rw [add_off]
    refine DoU_store (by kernel_rfl) hb (by simp [numS_len]; omega) rfl fun w11 hb11 hg11 => ?_
    refine Do_pu (pu_iadd (by omega) (by omega)) ⟨8 - (i + 1), by omega, i + 1, rfl, by omega, rfl, ?_, hx3.grown hg11 fun k e => by cases e; exact Nat.le_refl _⟩
    have e8 : ((8 : Int) * (i : Int)).toNat = 8 * i := by omega
    rw [e8] at hb11
    have : i = 0 ∨ i = 1 ∨ i = 2 ∨ i = 3 ∨ i = 4 ∨ i = 5 ∨ i = 6 ∨ i = 7 := by omega
    rcases this with rfl | rfl | rfl | rfl | rfl | rfl | rfl | rfl <;> exact hb11
  · obtain rfl : i = 8 := by omega
    refine Ret.of ⟨?_, hx3, fun g hg => by cases hg; exact Nat.le_refl _⟩
    exact ⟨by simp [numS_len], .inr ⟨_, _, _, rfl, Nat.zero_le _, hb, Nat.le_refl _, by decide, by simp [numS_len], by rw [← List.map_take]; rfl⟩⟩
/-- Bytes, and how many they are ahead. -/
def bytesS (b : List UInt8) : List UInt8 := numS b.length ++ b
theorem wireBytes_c {w : World} {v : Value} {b : List UInt8} (hv : SeesB w v b) (hb : b.length ≤ 35184372080000) :
    Calls Tryz.prog 102 #[v] w (Ret fun v w' => Own w' 5 1 v (bytesS b).length ((bytesS b).map u8) ∧ Ext w w' ∧ Late w v) := by
  refine vc_wire_Bytes ?_
  unfold V_wire_Bytes
  refine DoN_pu (pu_len Tryz.underlying22 hv) ?_
  refine CallS_r (number_c _ (by omega) w) fun x5 w2 hh => ?_
  obtain ⟨ho2, hx2, _⟩ := hh
  refine Do_build1L (vs := [x5, v]) Tryz.underlying55 rowBytes (one_cons (Own.one ho2) (one_cons (Sees.one hv) one_nil)) rfl rfl (by decide) (by decide) fun w3 n3 => ?_
  have hs2 : Sees w2 x5 (numS b.length).length ((numS b.length).map u8) := ho2.sees
  refine CallS_r (join_c (parts := [numS b.length, b]) (Own.new (s := 1) n3 rfl (by decide)).sees (.cons (hs2.ext n3.ext) (.cons (hv.ext (hx2.trans n3.ext)) (.nil _))) (by simp [numS_len]; omega)) fun x8 w4 hh => ?_
  obtain ⟨ho4, hx4, hl4⟩ := hh
  have e : ([numS b.length, b] : List (List UInt8)).flatten = bytesS b := by simp [bytesS]
  rw [e] at ho4
  exact Ret.of ⟨ho4, hx2.trans (n3.ext.trans hx4), fun g hg => by have := hl4 g hg; have := hx2.size; have := n3.ext.size; omega⟩
end Go.Proofs.YtpdceilhgaladaaGreatDoor
