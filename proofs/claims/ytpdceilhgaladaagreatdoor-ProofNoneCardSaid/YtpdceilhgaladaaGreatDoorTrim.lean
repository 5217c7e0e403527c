/- strings.Trim by a set of bytes below 128. -/
import Derived.Test.YtpdceilhgaladaaGreatDoorVTrim
import Derived.Test.YtpdceilhgaladaaGreatDoorStr
import Derived.Test.YtpdceilhgaladaaGreatDoorMore
namespace Go.Vc
open Go.RowKit
/-- A string of those bytes. -/
def str (l : List UInt8) : Value := .string ⟨l.toArray⟩
theorem str_of (s : ByteArray) : Value.string s = str s.data.toList := by unfold str; congr
theorem str_inj {a b : List UInt8} (h : str a = str b) : a = b := by
  unfold str at h
  simpa using h
section
variable {P : Program} {w : World} {K : Value → World → Prop} {Kp : List PanicEntry → World → Prop} {t : TypeId}
theorem pu_lenS {ty : TypeId} {l : List UInt8} {fl : Array Bool} (hu : P.underlying t = some .string) : PuN P (builtin .len #[t] ty fl #[str l]) (i64 l.length) := fun w => run_lenStr hu w
theorem pu_indexS {l : List UInt8} {k : IntKind} {i : Nat} {c : UInt8} (hu : P.underlying t = some .string) (hc : l[i]? = some c) : Pu P (Instr.index t (str l) (.int k i)) (u8 c) := fun w => by
  have h : (⟨l.toArray⟩ : ByteArray)[i]? = some c := by
    obtain ⟨hlt, he⟩ := List.getElem?_eq_some_iff.1 hc
    have hlt' : i < (⟨l.toArray⟩ : ByteArray).size := hlt
    rw [getElem?_pos (⟨l.toArray⟩ : ByteArray) i hlt']
    exact congrArg some he
  simp [Instr.index, asIntOf, run_underlying' hu, str, h, u8]
theorem extract_str (l : List UInt8) (a b : Nat) : (⟨l.toArray⟩ : ByteArray).extract a b = ⟨((l.take b).drop a).toArray⟩ := by
  apply ByteArray.ext
  rw [ByteArray.data_extract]
  simp [List.drop_take]
theorem pu_sliceS {l : List UInt8} {lo hi : Nat} (hu : P.underlying t = some .string) (ol oh : Option Value) (hol : ol = some (i64 lo) ∨ ol = none ∧ lo = 0) (hoh : oh = some (i64 hi) ∨ oh = none ∧ hi = l.length) (h1 : lo ≤ hi) (h2 : hi ≤ l.length) :
    Pu P (Instr.sliceAt t (str l) ol oh none) (str ((l.take hi).drop lo)) := fun w => by
  have hsz : (⟨l.toArray⟩ : ByteArray).size = l.length := rfl
  have e := extract_str l lo hi
  rcases hol with rfl | ⟨rfl, rfl⟩ <;> rcases hoh with rfl | ⟨rfl, rfl⟩ <;>
    simp [Instr.sliceAt, Instr.slice, run_underlying' hu, Instr.sliceBounds, Instr.sliceBound, asIntOf, str, hsz, h1, h2, e]
theorem toList_str (l : List UInt8) : (⟨l.toArray⟩ : ByteArray).toList = l := ByteArray.toList_mk l
theorem pu_seql {a b : List UInt8} {x y : Operand} : Pu P (do eqGuard .eql t x y (str a) (str b); binOp .eql t (str a) (str b) : Sem Value) (.bool (a == b)) := fun w => by
  have := pu_streq (P := P) (t := t) (a := ⟨a.toArray⟩) (b := ⟨b.toArray⟩) (x := x) (y := y) w
  rw [toList_str, toList_str] at this
  exact this
end
end Go.Vc

namespace Go.Proofs.YtpdceilhgaladaaGreatDoor
open Go.Vc Go.RowKit
/-- Block a is a set of bytes. -/
def ASet (w : World) (a : Nat) (p : UInt8 → Bool) : Prop := ∃ l, Blk w a l 195 ∧ l.length = 256 ∧ ∀ c : UInt8, l[c.toNat]? = some (.bool (p c))
theorem contains_c {w : World} {a : Nat} {p : UInt8 → Bool} (h : ASet w a p) (c : UInt8) : Calls Tryz.prog 152 #[.pointer (some ⟨a, 0, none⟩), u8 c] w (Ret fun v w' => v = .bool (p c) ∧ w' = w) := by
  obtain ⟨l, hb, hl, hp⟩ := h
  have hc := u8_lt c
  refine vc_strings_asciiSet_contains ?_
  unfold V_strings_asciiSet_contains
  refine DoN_pu pu_nilptr ?_
  refine Do_pu (pu_indexArr Tryz.underlying195 (s := 1) (by kernel_rfl) (by omega) (by omega)) ?_
  refine Do_load Tryz.underlying4 rfl (v := .bool (p c)) ?_ (Ret.of ⟨rfl, rfl⟩)
  rw [hb.cell, ← hp c]; congr 1; omega
def trimR (p : UInt8 → Bool) (l : List UInt8) : List UInt8 := (l.reverse.dropWhile p).reverse
theorem trimR_snoc (p : UInt8 → Bool) (l : List UInt8) (c : UInt8) : trimR p (l ++ [c]) = if p c then trimR p l else l ++ [c] := by
  unfold trimR
  rw [List.reverse_append]
  simp only [List.reverse_cons, List.reverse_nil, List.nil_append, List.singleton_append, List.dropWhile_cons]
  split <;> simp
theorem trimRight_c {w : World} {a : Nat} {p : UInt8 → Bool} (h : ASet w a p) (l : List UInt8) (hl : l.length ≤ 70368744177664) :
    Calls Tryz.prog 124 #[str l, .pointer (some ⟨a, 0, none⟩)] w (Ret fun v w' => v = str (trimR p l) ∧ w' = w) := by
  refine vc_strings_trimRightASCII ?_
  unfold V_strings_trimRightASCII
  refine ⟨fun m xs w' => ∃ l', xs = [str l'] ∧ m = l'.length ∧ w' = w ∧ trimR p l' = trimR p l ∧ l'.length ≤ 70368744177664, ⟨l.length, l, rfl, rfl, rfl, rfl, hl⟩, ?_⟩
  rintro m1 x0 j1 w1 ⟨l', hx, rfl, rfl, ht, hl'⟩
  obtain rfl : x0 = str l' := by simpa using hx
  refine DoN_pu (pu_lenS Tryz.underlying9) ?_
  refine Do_pu pu_gtr (CondV_if (fun hp => ?_) fun hp => ?_)
  · refine DoN_pu (pu_lenS Tryz.underlying9) ?_
    refine Do_pu (pu_isub (by omega) (by omega)) ?_
    rw [show ((l'.length : Int) - 1) = ((l'.length - 1 : Nat) : Int) by omega]
    obtain ⟨q, c, rfl⟩ : ∃ q c, l' = q ++ [c] := ⟨l'.dropLast, l'.getLast (by intro e; subst e; simp at hp), (List.dropLast_concat_getLast _).symm⟩
    refine Do_pu (pu_indexS (c := c) Tryz.underlying9 (by simp)) ?_
    refine CallS_v (contains_c h c) ?_
    refine Do_pu pu_not (CondV_b (fun hc => ?_) fun hc => ?_)
    · have hc' : p c = false := by simpa using hc
      refine Ret.of ⟨?_, rfl⟩
      rw [← ht, trimR_snoc, hc']; rfl
    · have hc' : p c = true := by simpa using hc
      refine DoN_pu (pu_lenS Tryz.underlying9) ?_
      refine Do_pu (pu_isub (by omega) (by omega)) ?_
      rw [show (((q ++ [c]).length : Int) - 1) = ((q.length : Nat) : Int) by simp]
      refine Do_pu (pu_sliceS (lo := 0) (hi := q.length) Tryz.underlying9 none _ (.inr ⟨rfl, rfl⟩) (.inl rfl) (by omega) (by simp)) ?_
      refine ⟨q.length, by simp, q, by simp, rfl, rfl, ?_, by simp at hl'; omega⟩
      rw [← ht, trimR_snoc, hc']; rfl
  · obtain rfl : l' = [] := List.eq_nil_of_length_eq_zero (by omega)
    exact Ret.of ⟨by rw [← ht]; rfl, rfl⟩
theorem trimLeft_c {w : World} {a : Nat} {p : UInt8 → Bool} (h : ASet w a p) (l : List UInt8) (hl : l.length ≤ 70368744177664) :
    Calls Tryz.prog 123 #[str l, .pointer (some ⟨a, 0, none⟩)] w (Ret fun v w' => v = str (l.dropWhile p) ∧ w' = w) := by
  refine vc_strings_trimLeftASCII ?_
  unfold V_strings_trimLeftASCII
  refine ⟨fun m xs w' => ∃ l', xs = [str l'] ∧ m = l'.length ∧ w' = w ∧ l'.dropWhile p = l.dropWhile p ∧ l'.length ≤ 70368744177664, ⟨l.length, l, rfl, rfl, rfl, rfl, hl⟩, ?_⟩
  rintro m1 x0 j1 w1 ⟨l', hx, rfl, rfl, ht, hl'⟩
  obtain rfl : x0 = str l' := by simpa using hx
  refine DoN_pu (pu_lenS Tryz.underlying9) ?_
  refine Do_pu pu_gtr (CondV_if (fun hp => ?_) fun hp => ?_)
  · obtain ⟨c, q, rfl⟩ : ∃ c q, l' = c :: q := by
      cases l' with
      | nil => simp at hp
      | cons c q => exact ⟨c, q, rfl⟩
    refine Do_pu (pu_indexS (i := 0) (c := c) Tryz.underlying9 rfl) ?_
    refine CallS_v (contains_c h c) ?_
    refine Do_pu pu_not (CondV_b (fun hc => ?_) fun hc => ?_)
    · have hc' : p c = false := by simpa using hc
      refine Ret.of ⟨?_, rfl⟩
      rw [← ht, List.dropWhile_cons, hc']; rfl
    · have hc' : p c = true := by simpa using hc
      refine Do_pu (pu_sliceS (lo := 1) (hi := (c :: q).length) Tryz.underlying9 _ none (.inl rfl) (.inr ⟨rfl, rfl⟩) (by simp) (by simp)) ?_
      refine ⟨q.length, by simp, q, by simp, rfl, rfl, ?_, by simp at hl'; omega⟩
      rw [← ht, List.dropWhile_cons, hc']; rfl
  · obtain rfl : l' = [] := List.eq_nil_of_length_eq_zero (by omega)
    exact Ret.of ⟨by rw [← ht]; rfl, rfl⟩

theorem makeSet_c (cs : List UInt8) (hcs : ∀ c ∈ cs, c.toNat < 128) (hl : cs.length ≤ 1000) (w : World) :
    Calls Tryz.prog 122 #[str cs] w (Ret fun v w' => ∃ l : List Value, v = .tuple #[.agg l.toArray, .bool true] ∧ l.length = 256 ∧ (∀ c : UInt8, l[c.toNat]? = some (.bool (cs.contains c))) ∧ Ext w w') := by
  refine vc_strings_makeASCIISet ?_
  unfold V_strings_makeASCIISet
  refine Do_alloc (l := List.replicate 256 (.bool false)) (by kernel_rfl) fun w1 n1 => ?_
  refine ⟨fun m xs w' => ∃ (t : Nat) (l : List Value), xs = [i64 t] ∧ m + t = cs.length ∧ Ext w w' ∧ Blk w' w.heap.size l 195 ∧ l.length = 256 ∧ ∀ c : UInt8, l[c.toNat]? = some (.bool ((cs.take t).contains c)),
    ⟨cs.length, 0, _, rfl, rfl, n1.ext, n1.blk, List.length_replicate, fun c => ?_⟩, ?_⟩
  · rw [List.getElem?_replicate, if_pos (u8_lt c)]; rfl
  rintro m1 x4 j1 w2 ⟨t, l, hx4, hm, hx2, hb2, hl2, hp2⟩
  obtain rfl : x4 = i64 t := by simpa using hx4
  have hone : ∀ u ∈ l, u.oneCell' = true := fun u hu => by
    obtain ⟨i, hi, rfl⟩ := List.getElem_of_mem hu
    have := hp2 (UInt8.ofNat i)
    rw [show (UInt8.ofNat i).toNat = i by simp; omega, List.getElem?_eq_getElem hi] at this
    rw [Option.some.inj this]; rfl
  refine DoN_pu (pu_lenS Tryz.underlying9) ?_
  refine Do_pu pu_lss (CondV_if (fun ht => ?_) fun ht => ?_)
  · have htn : t < cs.length := by omega
    have hc := u8_lt cs[t]
    have hc128 := hcs cs[t] (List.getElem_mem htn)
    refine Do_pu (pu_indexS (c := cs[t]) Tryz.underlying9 (List.getElem?_eq_getElem htn)) ?_
    refine Do_pu pu_geq (CondV_if (fun hge => by omega) fun _ => ?_)
    refine Do_pu (pu_indexArr Tryz.underlying195 (s := 1) (by kernel_rfl) (by omega) (by omega)) ?_
    refine DoU_store (by kernel_rfl) hb2 (by omega) rfl fun w10 hb10 hg10 => ?_
    refine Do_pu (pu_iadd (by omega) (by omega)) ?_
    refine ⟨m1 - 1, by omega, t + 1, _, by simp, by omega, hx2.grown hg10 (fun k e => by cases e; exact Nat.le_refl _), hb10, by simpa using hl2, fun c => ?_⟩
    rw [show 0 + ((cs[t]).toNat : Int).toNat * 1 = (cs[t]).toNat by omega]
    have hcl := u8_lt c
    have hmem : ∀ c, (cs.take (t + 1)).contains c = ((cs.take t).contains c || c == cs[t]) := fun c => by
      rw [Bool.eq_iff_iff, Bool.or_eq_true, List.contains_iff_mem, List.contains_iff_mem, beq_iff_eq, List.take_add_one, List.getElem?_eq_getElem htn, List.mem_append, Option.toList, List.mem_singleton]
    rw [hmem]
    by_cases e : cs[t] = c
    · subst e
      rw [List.getElem?_set_self (by omega), beq_self_eq_true, Bool.or_true]
    · rw [List.getElem?_set_ne (fun e' => e (UInt8.toNat_inj.1 e')), hp2 c, beq_eq_false_iff_ne.2 (fun e' => e e'.symm), Bool.or_false]
  · obtain rfl : t = cs.length := by omega
    rw [List.take_length] at hp2
    refine Do_loadAgg Tryz.underlying195 rfl (by rw [hl2]; kernel_rfl) hb2.all ?_
    refine DoU_storeAgg (by rw [hl2]; kernel_rfl) hb2 (by omega) hone fun w13 hb13 hg13 => ?_
    have hb13' : Blk w13 w.heap.size l 195 := by simpa [List.drop_of_length_le] using hb13
    exact ⟨[.agg l.toArray, .bool true], ⟨⟨_, rfl, run_loadVarAgg Tryz.underlying195 rfl (by rw [hl2]; kernel_rfl) hb13'.all⟩, rfl, trivial⟩,
      Ret.of ⟨l, rfl, hl2, hp2, hx2.grown hg13 (fun k e => by cases e; exact Nat.le_refl _)⟩⟩
def trimS (p : UInt8 → Bool) (l : List UInt8) : List UInt8 := (trimR p l).dropWhile p
theorem trim_c (cs l : List UInt8) (hcs : ∀ c ∈ cs, c.toNat < 128) (hcl : cs.length ≤ 1000) (hc2 : 2 ≤ cs.length) (hl : l.length ≤ 70368744177664) (w : World) :
    Calls Tryz.prog 83 #[str l, str cs] w (Ret fun v w' => v = str (trimS cs.contains l) ∧ Ext w w') := by
  refine vc_strings_Trim ?_
  unfold V_strings_Trim
  refine Do_pu (pu_seql (b := [])) (SplitB_b (fun hc => ?_) fun hc => ?_)
  · obtain rfl : l = [] := by simpa using hc
    exact Ret.of ⟨rfl, Ext.refl _⟩
  refine Do_pu (pu_seql (b := [])) (CondV_b (fun hc => ?_) fun _ => ?_)
  · obtain rfl : cs = [] := by simpa using hc
    simp at hc2
  refine ⟨fun _ w' => w' = w, ?_, ?_⟩
  · refine DoN_pu (pu_lenS Tryz.underlying9) ?_
    refine Do_pu pu_eql (SplitB_b (fun hc => ?_) fun _ => rfl)
    simp at hc; omega
  rintro j1 w11 rfl
  refine CallS_r (makeSet_c cs hcs hcl w11) fun x31 w12 hh => ?_
  obtain ⟨L, rfl, hL, hp, hx12⟩ := hh
  refine Do_pu (pu_ext rfl) ?_
  refine Do_pu (pu_ext rfl) ?_
  refine Do_alloc (l := List.replicate 256 (.bool false)) (by kernel_rfl) fun w15 n15 => ?_
  have hone : ∀ u ∈ L, u.oneCell' = true := fun u hu => by
    obtain ⟨i, hi, rfl⟩ := List.getElem_of_mem hu
    have := hp (UInt8.ofNat i)
    rw [show (UInt8.ofNat i).toNat = i by simp; omega, List.getElem?_eq_getElem hi] at this
    rw [Option.some.inj this]; rfl
  refine DoU_storeAgg (by rw [hL]; kernel_rfl) n15.blk (by rw [hL, List.length_replicate]; omega) hone fun w16 hb16 hg16 => ?_
  have hb16' : Blk w16 w12.heap.size L 195 := hb16.whole (by rw [hL, List.length_replicate]; omega)
  have hx16 : Ext w11 w16 := (hx12.trans n15.ext).grown hg16 (fun k e => by cases e; exact hx12.size)
  have hset : ASet w16 w12.heap.size cs.contains := ⟨L, hb16', hL, hp⟩
  refine CondT ?_
  refine CallS_v (trimRight_c hset l hl) ?_
  refine CallS_v (trimLeft_c hset _ ?_) (Ret.of ⟨rfl, hx16⟩)
  have : (trimR cs.contains l).length ≤ l.length := by
    unfold trimR; simpa using (List.dropWhile_sublist (l := l.reverse) cs.contains).length_le
  omega
theorem all_of_dropWhile {p : UInt8 → Bool} : ∀ l : List UInt8, (∀ x ∈ l.dropWhile p, p x = true) → ∀ x ∈ l, p x = true
  | [], _, x, hx => by cases hx
  | a :: l, h, x, hx => by
    by_cases ha : p a = true
    · rw [List.dropWhile_cons, if_pos ha] at h
      rcases List.mem_cons.1 hx with rfl | hx
      · exact ha
      · exact all_of_dropWhile l h x hx
    · rw [List.dropWhile_cons, if_neg ha] at h
      exact absurd (h a (List.mem_cons_self ..)) ha
theorem dropWhile_nil {p : UInt8 → Bool} : ∀ l : List UInt8, (∀ x ∈ l, p x = true) → l.dropWhile p = []
  | [], _ => rfl
  | a :: l, h => by rw [List.dropWhile_cons, if_pos (h a (List.mem_cons_self ..))]; exact dropWhile_nil l fun x hx => h x (List.mem_cons_of_mem _ hx)
theorem trimS_nil (p : UInt8 → Bool) (l : List UInt8) : (trimS p l == []) = l.all p := by
  rw [Bool.eq_iff_iff, beq_iff_eq, List.all_eq_true]
  unfold trimS trimR
  constructor
  · intro h x hx
    refine all_of_dropWhile l.reverse (fun y hy => ?_) x (by simpa using hx)
    refine all_of_dropWhile _ (by rw [h]; intro x hx; cases hx) y (by simpa using hy)
  · intro h
    rw [dropWhile_nil l.reverse (fun x hx => h x (by simpa using hx))]
    rfl
/-- A text of noughts and ones, of 510 at most. -/
def isPath (l : List UInt8) : Bool := decide (l.length ≤ 510) && l.all [48, 49].contains
theorem path_c (l : List UInt8) (hl : l.length ≤ 70368744177664) (w : World) : Calls Tryz.prog 48 #[str l] w (Ret fun v w' => v = .bool (isPath l) ∧ Ext w w') := by
  refine vc_merkle_path ?_
  unfold V_merkle_path
  refine DoN_pu (pu_lenS Tryz.underlying9) ?_
  refine Do_pu pu_leq (SplitB_b (fun hc => ?_) fun hc => ?_)
  · refine CallS_r (trim_c [48, 49] l (by decide) (by decide) (by decide) hl w) fun x8 w3 hh => ?_
    obtain ⟨rfl, hx⟩ := hh
    refine Do_pu (pu_seql (b := [])) ?_
    refine Ret.of ⟨?_, hx⟩
    have hc' : l.length ≤ 510 := by have := of_decide_eq_true hc; omega
    rw [trimS_nil]
    simp [isPath, hc']
  · refine Ret.of ⟨?_, Ext.refl _⟩
    have hc' : ¬ l.length ≤ 510 := by have := of_decide_eq_false hc; omega
    simp [isPath, hc']
end Go.Proofs.YtpdceilhgaladaaGreatDoor
