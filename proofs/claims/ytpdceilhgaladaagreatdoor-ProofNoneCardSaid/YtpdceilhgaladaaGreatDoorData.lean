/- Data that lie in memory: bytes, dots, records, leaves. -/
import Derived.Test.YtpdceilhgaladaaGreatDoorTrim
import Derived.Deep.Slices
namespace Go.Vc
open Go.RowKit
section
variable {P : Program} {w w' : World} {K : Value → World → Prop} {Kp : List PanicEntry → World → Prop} {t e : TypeId} {α : Type}
theorem pu_fieldA {fs : Array Field} {f : Nat} {fld : Field} {n o : Nat} {a : Addr} (hu : P.underlying t = some (.struct fs)) (hf : fs[f]? = some fld) (hs : sizeAt P fld.type = some (n + 1)) (ho : fld.offset = o) :
    Pu P (Instr.fieldAt t (.pointer (some a)) f) (.pointer (some (a.add o))) := fun w => by
  subst ho
  simp [Instr.fieldAt, run_underlying' hu, hf, Instr.sureAddr, fieldPlace, run_sizeOf hs]
/-- A field of an element. -/
theorem Sees.fieldP {fs : Array Field} {f : Nat} {fld : Field} {n o m k : Nat} {v : Value} {l : List Value} (hv : Sees w v m l) (hm : 0 < m) (hu : P.underlying t = some (.struct fs)) (hf : fs[f]? = some fld) (hs : sizeAt P fld.type = some (n + 1)) (ho : fld.offset = o) :
    Pu P (Instr.fieldAt t (elemP v k) f) (elemP v (k + o)) := by
  rcases hv with ⟨_, rfl, _⟩ | ⟨a, c, rfl, h2, h3, h4⟩
  · omega
  · have := pu_fieldA (P := P) (a := a.add k) hu hf hs ho
    rw [Addr.add_add] at this
    exact this

/-- A slice of things, each of which lies as C says in n cells. -/
def SeesL (C : World → α → List Value → Prop) (n : Nat) (w : World) (v : Value) (xs : List α) : Prop :=
  ∃ css : List (List Value), css.length = xs.length ∧ Sees w v xs.length css.flatten ∧ ∀ (i : Nat) x cs, xs[i]? = some x → css[i]? = some cs → C w x cs ∧ cs.length = n
def SeesB (w : World) (v : Value) (b : List UInt8) : Prop := Sees w v b.length (b.map u8)
def ExtMono (C : World → α → List Value → Prop) : Prop := ∀ w w' x cs, Ext w w' → C w x cs → C w' x cs
theorem SeesL.ext {C : World → α → List Value → Prop} (hC : ExtMono C) {n : Nat} {v : Value} {xs : List α} (h : SeesL C n w v xs) (hx : Ext w w') : SeesL C n w' v xs := by
  obtain ⟨css, h1, h2, h3⟩ := h
  exact ⟨css, h1, h2.ext hx, fun i x cs a b => ⟨hC _ _ _ _ hx (h3 i x cs a b).1, (h3 i x cs a b).2⟩⟩
theorem SeesB.ext {v : Value} {b : List UInt8} (h : SeesB w v b) (hx : Ext w w') : SeesB w' v b := Sees.ext h hx
theorem flat_get {n : Nat} : ∀ (css : List (List Value)) (i j : Nat) (cs : List Value) (u : Value), (∀ c ∈ css, c.length = n) → css[i]? = some cs → cs[j]? = some u → css.flatten[i * n + j]? = some u
  | [], i, j, cs, u, _, h, _ => by simp at h
  | c :: css, 0, j, cs, u, hn, h, hu => by
    cases h
    rw [List.flatten_cons, Nat.zero_mul, Nat.zero_add, List.getElem?_append_left (List.getElem?_eq_some_iff.1 hu).1]
    exact hu
  | c :: css, i + 1, j, cs, u, hn, h, hu => by
    have hc := hn c (List.mem_cons_self ..)
    rw [List.flatten_cons, Nat.succ_mul, List.getElem?_append_right (by omega), show i * n + n + j - c.length = i * n + j by omega]
    exact flat_get css i j cs u (fun c hc => hn c (List.mem_cons_of_mem _ hc)) (by simpa using h) hu
theorem SeesL.sees {C : World → α → List Value → Prop} {n : Nat} {v : Value} {xs : List α} (h : SeesL C n w v xs) : ∃ l, Sees w v xs.length l := by
  obtain ⟨css, _, h, _⟩ := h; exact ⟨_, h⟩
/-- One of them. -/
theorem SeesL.get {C : World → α → List Value → Prop} {n : Nat} {v : Value} {xs : List α} (h : SeesL C n w v xs) {i : Nat} (hi : i < xs.length) : ∃ l cs, Sees w v xs.length l ∧ C w xs[i] cs ∧ cs.length = n ∧ ∀ j u, cs[j]? = some u → l[i * n + j]? = some u := by
  obtain ⟨css, h1, h2, h3⟩ := h
  have hi' : i < css.length := by omega
  have hn : ∀ c ∈ css, c.length = n := fun c hc => by
    obtain ⟨k, hk, rfl⟩ := List.getElem_of_mem hc
    exact (h3 k _ _ (List.getElem?_eq_getElem (by omega)) (List.getElem?_eq_getElem hk)).2
  have := h3 i _ _ (List.getElem?_eq_getElem hi) (List.getElem?_eq_getElem hi')
  exact ⟨_, _, h2, this.1, this.2, fun j u hu => flat_get css i j _ u hn (List.getElem?_eq_getElem hi') hu⟩
theorem SeesL.len {C : World → α → List Value → Prop} {n : Nat} {v : Value} {xs : List α} (h : SeesL C n w v xs) : xs.length ≤ 9223372036854775807 := by
  obtain ⟨css, _, h, _⟩ := h
  rcases h with ⟨_, h, _⟩ | ⟨_, c, _, h2, h3, _⟩
  · omega
  · simp only [maxLen] at h3; omega
theorem SeesB.len {v : Value} {b : List UInt8} (h : SeesB w v b) : b.length ≤ 9223372036854775807 := by
  rcases h with ⟨_, h, _⟩ | ⟨_, c, _, h2, h3, _⟩
  · omega
  · simp only [maxLen] at h3; omega
theorem SeesL.nil {C : World → α → List Value → Prop} {n : Nat} : SeesL C n w (.slice none 0 0) [] := ⟨[], rfl, .inl ⟨rfl, rfl, rfl⟩, fun i x cs h => by simp at h⟩
theorem SeesB.nil : SeesB w (.slice none 0 0) [] := .inl ⟨rfl, rfl, rfl⟩

def I64 (n : Int) : Prop := -9223372036854775808 ≤ n ∧ n ≤ 9223372036854775807
structure Rec where
  key : List UInt8
  client : Int
  seq : Int
  ctx : List (Int × Int)
  gone : Bool
  value : List UInt8
  sig : List UInt8
structure Lf where
  key : List UInt8
  set : List Rec
def DotC (_ : World) (d : Int × Int) (cs : List Value) : Prop := cs = [i64 d.1, i64 d.2] ∧ I64 d.1 ∧ I64 d.2
def RecC (w : World) (r : Rec) (cs : List Value) : Prop :=
  ∃ cv vv sv, cs = [str r.key, i64 r.client, i64 r.seq, cv, .bool r.gone, vv, sv] ∧ SeesL DotC 2 w cv r.ctx ∧ SeesB w vv r.value ∧ SeesB w sv r.sig ∧ r.key.length ≤ 9223372036854775807 ∧ I64 r.client ∧ I64 r.seq
def LfC (w : World) (l : Lf) (cs : List Value) : Prop := ∃ sv, cs = [str l.key, sv] ∧ SeesL RecC 7 w sv l.set ∧ l.key.length ≤ 9223372036854775807
theorem DotC.mono : ExtMono DotC := fun _ _ _ _ _ h => h
theorem RecC.mono : ExtMono RecC := fun _ _ _ _ hx ⟨cv, vv, sv, h0, h1, h2, h3, h4⟩ => ⟨cv, vv, sv, h0, h1.ext DotC.mono hx, h2.ext hx, h3.ext hx, h4⟩
theorem LfC.mono : ExtMono LfC := fun _ _ _ _ hx ⟨sv, h0, h1, h2⟩ => ⟨sv, h0, h1.ext RecC.mono hx, h2⟩

/-! ### What the form's reading gives -/
variable {H : Type} {enc : TypeId × Value → H} {base : Nat} {spare : Nat → Bool} {held : Bool}
theorem cells_spec {a : Addr} {n : Nat} {cs : List Value} (h : w.cells? base a n = some cs) : cs.length = n ∧ ∀ j u, cs[j]? = some u → w.cell? (a.add j) = some u := by
  obtain ⟨_, h1, h2⟩ := World.cells?_some h
  exact ⟨h1, fun j u hu => (h2 j (by have := (List.getElem?_eq_some_iff.1 hu).1; omega)).trans hu⟩
theorem flat_inv {n : Nat} : ∀ (css : List (List Value)) (j : Nat) (u : Value), (∀ c ∈ css, c.length = n) → css.flatten[j]? = some u → ∃ i r cs, css[i]? = some cs ∧ cs[r]? = some u ∧ j = i * n + r
  | [], j, u, _, h => by simp at h
  | c :: css, j, u, hn, h => by
    have hc := hn c (List.mem_cons_self ..)
    rw [List.flatten_cons] at h
    by_cases hj : j < c.length
    · rw [List.getElem?_append_left hj] at h
      exact ⟨0, j, c, rfl, h, by omega⟩
    · rw [List.getElem?_append_right (by omega)] at h
      obtain ⟨i, r, cs, h1, h2, h3⟩ := flat_inv css _ u (fun c hc => hn c (List.mem_cons_of_mem _ hc)) h
      exact ⟨i + 1, r, cs, by simpa using h1, h2, by rw [Nat.succ_mul]; omega⟩
theorem open_str {fuel : Nat} {cs : List Value} {x : DataW H × List MemPlace} (ht : P.underlying t = some .string) (h : DataW.trod enc P w base spare held fuel t cs = some x) : ∃ l, cs = [str l] ∧ l.length ≤ 9223372036854775807 := by
  obtain ⟨s, rfl, _, hs⟩ := DataW.trod_string ht h
  exact ⟨s.data.toList, by rw [← str_of], hs⟩
theorem open_i64 {fuel : Nat} {cs : List Value} {x : DataW H × List MemPlace} (ht : P.underlying t = some (.int .i64)) (h : DataW.trod enc P w base spare held fuel t cs = some x) : ∃ n, cs = [i64 n] ∧ I64 n := by
  obtain ⟨n, rfl, _, hs⟩ := DataW.trod_int ht h
  refine ⟨n, rfl, ?_⟩
  simpa [Lit.wf, IntKind.min, IntKind.max, I64, IntKind.signed, IntKind.bits, Int.le_sub_one_iff] using hs
theorem open_bool' {fuel : Nat} {cs : List Value} {x : DataW H × List MemPlace} (ht : P.underlying t = some .bool) (h : DataW.trod enc P w base spare held fuel t cs = some x) : ∃ b, cs = [.bool b] := by
  obtain ⟨b, rfl, _⟩ := DataW.trod_bool ht h
  exact ⟨b, rfl⟩
theorem open_u8 {fuel : Nat} {cs : List Value} {x : DataW H × List MemPlace} (ht : P.underlying t = some (.int .u8)) (h : DataW.trod enc P w base spare held fuel t cs = some x) : ∃ c, cs = [u8 c] := by
  obtain ⟨n, rfl, _, hs⟩ := DataW.trod_int ht h
  have hn : 0 ≤ n ∧ n < 256 := by
    have : IntKind.u8.min ≤ n ∧ n ≤ IntKind.u8.max := by simpa [Lit.wf] using hs
    have h1 : IntKind.u8.min = 0 := rfl
    have h2 : IntKind.u8.max = 255 := rfl
    omega
  refine ⟨UInt8.ofNat n.toNat, ?_⟩
  unfold u8
  rw [UInt8.toNat_ofNat', Nat.mod_eq_of_lt (by omega), Int.toNat_of_nonneg hn.1]
theorem openL {C : World → α → List Value → Prop} {n fuel : Nat} {cs : List Value} {x : DataW H × List MemPlace} (ht : P.underlying t = some (.slice e)) (hn : P.cellsOf e = n)
    (hC : ∀ fuel cs x, DataW.trod enc P w base spare held fuel e cs = some x → ∃ a, C w a cs) (h : DataW.trod enc P w base spare held fuel t cs = some x) : ∃ v xs, cs = [v] ∧ SeesL C n w v xs := by
  rcases Deep.open_slice ht h with ⟨rfl, _⟩ | ⟨a, len, cap, m, k, D, Pl, rfl, hb, hl, hm, hmm, rfl, hx⟩
  · exact ⟨_, [], rfl, SeesL.nil⟩
  have hlm : len ≤ m := by subst hmm; split <;> omega
  rw [hn] at hx
  have hall : ∀ i : Fin len, ∃ p : List Value × α, w.cells? base (a.add (i.val * n)) n = some p.1 ∧ C w p.2 p.1 := fun i => by
    obtain ⟨cs', h1, h2⟩ := hx i.val (by omega)
    obtain ⟨y, hy⟩ := hC _ _ _ h2
    exact ⟨(cs', y), h1, hy⟩
  obtain ⟨f, hf⟩ := Classical.axiomOfChoice hall
  refine ⟨_, List.ofFn fun i => (f i).2, rfl, List.ofFn fun i => (f i).1, by simp, .inr ⟨a, cap, by simp, by simpa using hl, hm, fun j u hu => ?_⟩, fun i y cs h1 h2 => ?_⟩
  · have hlen : ∀ c ∈ List.ofFn (fun i => (f i).1), c.length = n := fun c hc => by
      obtain ⟨i, rfl⟩ := (List.mem_ofFn ..).1 hc
      exact (cells_spec (hf i).1).1
    obtain ⟨i, r, cs, h1, h2, rfl⟩ := flat_inv _ j u hlen hu
    obtain ⟨hi, he⟩ := List.getElem?_eq_some_iff.1 h1
    have hi' : i < len := by simpa using hi
    simp only [List.getElem_ofFn] at he
    have := (cells_spec (hf ⟨i, hi'⟩).1).2 r u (by rw [he]; exact h2)
    rwa [Addr.add_add] at this
  · obtain ⟨hi, he⟩ := List.getElem?_eq_some_iff.1 h1
    obtain ⟨hi2, he2⟩ := List.getElem?_eq_some_iff.1 h2
    simp only [List.getElem_ofFn] at he he2
    subst he he2
    exact ⟨(hf _).2, (cells_spec (hf _).1).1⟩
theorem openB {fuel : Nat} {cs : List Value} {x : DataW H × List MemPlace} (ht : P.underlying t = some (.slice e)) (he : P.underlying e = some (.int .u8)) (hn : P.cellsOf e = 1) (h : DataW.trod enc P w base spare held fuel t cs = some x) : ∃ v b, cs = [v] ∧ SeesB w v b := by
  obtain ⟨v, b, rfl, css, h1, h2, h3⟩ := openL (C := fun _ c cs => cs = [u8 c]) ht hn (fun _ _ _ h => open_u8 he h) h
  refine ⟨v, b, rfl, ?_⟩
  have : css.flatten = b.map u8 := by
    clear h2 h
    induction css generalizing b with
    | nil => cases b with
      | nil => rfl
      | cons c b => simp at h1
    | cons cs css ih => cases b with
      | nil => simp at h1
      | cons c b =>
        have := (h3 0 c cs rfl rfl).1
        rw [List.flatten_cons, this, ih b (by simpa using h1) (fun i x cs a b => h3 (i + 1) x cs (by simpa using a) (by simpa using b))]
        rfl
  unfold SeesB
  rw [← this]; exact h2
/-- A struct's field of one cell. -/
theorem field1 {fs : List (DataW H × List MemPlace)} {ft : Array Field} {n i o : Nat} {f : Field} {c : Value} {cs : List Value} (h : ∀ (i : Nat) (f : Field), ft[i]? = some f → DataW.trod enc P w base spare held n f.type ((cs.drop f.offset).take (P.cellsOf f.type)) = fs[i]?)
    (hf : ft[i]? = some f) (hc : P.cellsOf f.type = 1) (hi : i < fs.length) (ho : f.offset = o) (hcs : cs[o]? = some c) : DataW.trod enc P w base spare held n f.type [c] = some fs[i] := by
  have := h i f hf
  rw [hc, ho, List.getElem?_eq_getElem hi] at this
  rw [← this]
  congr 1
  obtain ⟨h1, rfl⟩ := List.getElem?_eq_some_iff.1 hcs
  rw [List.drop_eq_getElem_cons h1]; rfl
end
theorem list7 {α : Type} {l : List α} (h : l.length = 7) : ∃ a b c d e f g, l = [a, b, c, d, e, f, g] := by
  match l, h with
  | [a, b, c, d, e, f, g], _ => exact ⟨a, b, c, d, e, f, g, rfl⟩
theorem list2 {α : Type} {l : List α} (h : l.length = 2) : ∃ a b, l = [a, b] := by
  match l, h with
  | [a, b], _ => exact ⟨a, b, rfl⟩
end Go.Vc

namespace Go.Proofs.YtpdceilhgaladaaGreatDoor
open Go.Vc Go.RowKit
section
variable {w : World} {H : Type} {enc : TypeId × Value → H} {base fuel : Nat} {spare : Nat → Bool} {held : Bool} {cs : List Value} {x : DataW H × List MemPlace}
theorem open_dot (h : DataW.trod enc Tryz.prog w base spare held fuel 89 cs = some x) : ∃ d, DotC w d cs := by
  obtain ⟨xs, n, rfl, _, hlen, hxl, hf⟩ := DataW.trod_struct Tryz.underlying89 h
  obtain ⟨c0, c1, rfl⟩ := list2 (hlen.trans (by kernel_rfl))
  have hx : xs.length = 2 := hxl
  obtain ⟨n0, h0, r0⟩ := open_i64 Tryz.underlying3 (field1 hf (i := 0) rfl (by kernel_rfl) (by omega) rfl rfl)
  obtain ⟨n1, h1, r1⟩ := open_i64 Tryz.underlying3 (field1 hf (i := 1) rfl (by kernel_rfl) (by omega) rfl rfl)
  cases h0; cases h1
  exact ⟨(n0, n1), rfl, r0, r1⟩
theorem open_rec (h : DataW.trod enc Tryz.prog w base spare held fuel 86 cs = some x) : ∃ r, RecC w r cs := by
  obtain ⟨xs, n, rfl, _, hlen, hxl, hf⟩ := DataW.trod_struct Tryz.underlying86 h
  obtain ⟨c0, c1, c2, c3, c4, c5, c6, rfl⟩ := list7 (hlen.trans (by kernel_rfl))
  have hx : xs.length = 7 := hxl
  obtain ⟨k, h0, r0⟩ := open_str Tryz.underlying9 (field1 hf (i := 0) rfl (by kernel_rfl) (by omega) rfl rfl)
  obtain ⟨n1, h1, r1⟩ := open_i64 Tryz.underlying3 (field1 hf (i := 1) rfl (by kernel_rfl) (by omega) rfl rfl)
  obtain ⟨n2, h2, r2⟩ := open_i64 Tryz.underlying3 (field1 hf (i := 2) rfl (by kernel_rfl) (by omega) rfl rfl)
  obtain ⟨v3, ds, h3, r3⟩ := openL (C := DotC) (n := 2) Tryz.underlying84 (by kernel_rfl) (fun _ _ _ h => open_dot h) (field1 hf (i := 3) rfl (by kernel_rfl) (by omega) rfl rfl)
  obtain ⟨b, h4⟩ := open_bool' Tryz.underlying4 (field1 hf (i := 4) rfl (by kernel_rfl) (by omega) rfl rfl)
  obtain ⟨v5, b5, h5, r5⟩ := openB Tryz.underlying22 Tryz.underlying5 (by kernel_rfl) (field1 hf (i := 5) rfl (by kernel_rfl) (by omega) rfl rfl)
  obtain ⟨v6, b6, h6, r6⟩ := openB Tryz.underlying22 Tryz.underlying5 (by kernel_rfl) (field1 hf (i := 6) rfl (by kernel_rfl) (by omega) rfl rfl)
  cases h0; cases h1; cases h2; cases h3; cases h4; cases h5; cases h6
  exact ⟨⟨k, n1, n2, ds, b, b5, b6⟩, _, _, _, rfl, r3, r5, r6, r0, r1, r2⟩
theorem open_leaf (h : DataW.trod enc Tryz.prog w base spare held fuel 83 cs = some x) : ∃ l, LfC w l cs := by
  obtain ⟨xs, n, rfl, _, hlen, hxl, hf⟩ := DataW.trod_struct Tryz.underlying83 h
  obtain ⟨c0, c1, rfl⟩ := list2 (hlen.trans (by kernel_rfl))
  have hx : xs.length = 2 := hxl
  obtain ⟨k, h0, r0⟩ := open_str Tryz.underlying9 (field1 hf (i := 0) rfl (by kernel_rfl) (by omega) rfl rfl)
  obtain ⟨v1, rs, h1, r1⟩ := openL (C := RecC) (n := 7) Tryz.underlying47 (by kernel_rfl) (fun _ _ _ h => open_rec h) (field1 hf (i := 1) rfl (by kernel_rfl) (by omega) rfl rfl)
  cases h0; cases h1
  exact ⟨⟨k, rs⟩, _, rfl, r1, r0⟩
end
end Go.Proofs.YtpdceilhgaladaaGreatDoor
