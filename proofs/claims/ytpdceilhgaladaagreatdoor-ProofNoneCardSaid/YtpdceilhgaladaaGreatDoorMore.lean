/- More that the operations come to: slices that are built of whole parts, tuples, results that lie in cells. -/
import Derived.Test.YtpdceilhgaladaaGreatDoorMap
namespace Go.Vc
open Go.RowKit
abbrev ptr (g : Nat) : Value := .pointer (some ⟨g, 0, none⟩)
theorem cells1 {v : Value} (h : v.oneCell' = true) : v.cells = #[v] := by cases v <;> first | rfl | cases h
theorem one_nil : ∀ u ∈ ([] : List Value), u.oneCell' = true := by intro u hu; cases hu
theorem one_cons {a : Value} {l : List Value} (ha : a.oneCell' = true) (hl : ∀ u ∈ l, u.oneCell' = true) : ∀ u ∈ a :: l, u.oneCell' = true := by
  intro u hu
  rcases List.mem_cons.1 hu with rfl | h
  · exact ha
  · exact hl u h
theorem Sees.one {w : World} {v : Value} {m : Nat} {l : List Value} (h : Sees w v m l) : v.oneCell' = true := by
  rcases h with ⟨rfl, _⟩ | ⟨_, _, rfl, _⟩ <;> rfl
theorem Sees.nil (w : World) : Sees w (.slice none 0 0) 0 [] := .inl ⟨rfl, rfl, rfl⟩
theorem Sees.shape {w : World} {v : Value} {m : Nat} {l : List Value} (h : Sees w v m l) : ∃ a c, v = .slice a m c := by
  rcases h with ⟨rfl, rfl, _⟩ | ⟨a, c, rfl, _⟩
  · exact ⟨_, _, rfl⟩
  · exact ⟨_, _, rfl⟩
theorem Blk.at {w w' : World} {g : Nat} {l : List Value} {t : TypeId} (h : Blk w g l t) (hx : Ext w w') (i : Nat) : w'.cell? ⟨g, i, none⟩ = l[i]? := (h.ext hx).cell i
theorem Blk.at0 {w w' : World} {g : Nat} {l : List Value} {t : TypeId} (h : Blk w g l t) (hx : Ext w w') (i : Nat) {z : World} (hz : Ext w'.drew z) : z.cell? ⟨g, i, none⟩ = l[i]? := (h.ext (hx.trans ((Ext.drew _).trans hz))).cell i
/-- The whole block. -/
theorem Blk.all {w : World} {g : Nat} {l : List Value} {t : TypeId} (h : Blk w g l t) : ∀ j v, l[j]? = some v → w.cell? ((⟨g, 0, none⟩ : Addr).add j) = some v := fun j v hj => by
  rw [add_off, Nat.zero_add, h.cell, hj]
theorem Blk.whole {w : World} {g : Nat} {l m : List Value} {t : TypeId} (h : Blk w g (l.take 0 ++ m ++ l.drop (0 + m.length)) t) (hl : l.length ≤ m.length) : Blk w g m t := by
  rw [List.take_zero, List.nil_append, List.drop_of_length_le (by omega), List.append_nil] at h; exact h
/-- A part of it. -/
theorem Blk.part {w : World} {g : Nat} {l m r k : List Value} {t : TypeId} (h : Blk w g l t) (hl : l = k ++ (m ++ r)) {i : Nat} (hi : k.length = i) : ∀ j v, m[j]? = some v → w.cell? ((⟨g, i, none⟩ : Addr).add j) = some v := fun j v hj => by
  rw [add_off, h.cell, hl, List.getElem?_append_right (by omega), show i + j - k.length = j by omega, List.getElem?_append_left (List.getElem?_eq_some_iff.1 hj).1, hj]

/-- What a slice sees of a block that is known whole. -/
theorem Sees.mem {w : World} {v : Value} {m g : Nat} {l L : List Value} {t : TypeId} (hv : Sees w v m l) (hb : Blk w g L t) (hg : v.ownBlock = some g) : ∀ u ∈ l, u ∈ L := by
  intro u hu
  obtain ⟨j, hj, rfl⟩ := List.getElem_of_mem hu
  rcases hv with ⟨rfl, _, rfl⟩ | ⟨a, c, rfl, _, _, h4⟩
  · cases hg
  · have h := h4 j _ (List.getElem?_eq_getElem hj)
    have hab : (a.add j).block = g := by
      have : a.block = g := by simpa [Value.ownBlock] using hg
      rw [← this]; unfold Addr.add; split <;> rfl
    have hb' : w.heap[(a.add j).block]? = some (.cells L.toArray t (0, 0)) := by rw [hab]; exact hb
    unfold World.cell? at h
    rw [hb'] at h
    simp only at h
    split at h
    · cases h
    · exact List.mem_of_getElem? (by simpa using h)
theorem fold_set (off : Nat) : ∀ (cs : List Value) (j : Nat) (pre old post : List Value), pre.length = off + j → old.length = cs.length →
    (cs.zipIdx j).foldl (fun (A : Array Value) (p : Value × Nat) => A.setIfInBounds (off + p.2) p.1) (pre ++ old ++ post).toArray = (pre ++ cs ++ post).toArray
  | [], j, pre, old, post, _, h2 => by
    obtain rfl : old = [] := List.eq_nil_of_length_eq_zero h2
    simp
  | c :: cs, j, pre, [], post, _, h2 => by simp at h2
  | c :: cs, j, pre, o :: old, post, h1, h2 => by
    have e : ((pre ++ (o :: old) ++ post).toArray).setIfInBounds (off + j) c = ((pre ++ [c]) ++ old ++ post).toArray := by
      rw [List.setIfInBounds_toArray, List.append_assoc, List.set_append_right _ _ (by omega), ← h1]
      simp
    simp only [List.zipIdx_cons, List.foldl_cons]
    rw [e, fold_set off cs (j + 1) (pre ++ [c]) old post (by simp; omega) (by simpa using h2)]
    simp
theorem fill_list {n : Nat} : ∀ (vs : List Value) (k : Nat) (pre rest : List Value), (∀ v ∈ vs, v.cells.size = n) → pre.length = k * n → rest.length = vs.length * n →
    Instr.fill (fun i => some (i * n, n)) (pre ++ rest).toArray ((vs.zipIdx k).map fun p => (p.2, p.1)) = some (pre ++ vs.flatMap fun v => v.cells.toList).toArray
  | [], k, pre, rest, _, _, h3 => by
    obtain rfl : rest = [] := List.eq_nil_of_length_eq_zero (by simpa using h3)
    simp [Instr.fill]
  | v :: vs, k, pre, rest, h1, h2, h3 => by
    have hv := h1 v (List.mem_cons_self ..)
    have h3' : rest.length = vs.length * n + n := by rw [h3, List.length_cons, Nat.succ_mul]
    have hvl : v.cells.toList.length = n := by simpa using hv
    simp only [List.zipIdx_cons, List.map_cons, Instr.fill]
    rw [if_neg (by simp only [hv, List.size_toArray, List.length_append, h2, h3', ne_eq, not_true_eq_false, decide_false, Bool.false_or, decide_eq_true_eq]; simp)]
    have e : v.cells.zipIdx.foldl (fun (cs : Array Value) (p : Value × Nat) => cs.setIfInBounds (k * n + p.2) p.1) (pre ++ rest).toArray = (pre ++ v.cells.toList ++ rest.drop n).toArray := by
      have := fold_set (k * n) v.cells.toList 0 pre (rest.take n) (rest.drop n) (by omega) (by simp [hvl]; omega)
      rw [List.append_assoc, List.take_append_drop] at this
      rw [← this, ← Array.foldl_toList]
      simp
    rw [e]
    have := fill_list vs (k + 1) (pre ++ v.cells.toList) (rest.drop n) (fun u hu => h1 u (List.mem_cons_of_mem _ hu)) (by rw [List.length_append, h2, hvl, Nat.succ_mul]) (by simp [h3'])
    rw [this]
    simp

section
variable {P : Program} {w w' : World} {K : Value → World → Prop} {Kp : List PanicEntry → World → Prop} {t e : TypeId}
/-- A slice built of all its elements. -/
theorem Do_buildL {n bytes len : Nat} {z vs cells : List Value} {parts : Array (Nat × Value)} (hu : P.underlying t = some (.slice e)) (he : rowIs P e n bytes z) (hn : ∀ v ∈ vs, v.cells.size = n)
    (hc : (vs.flatMap fun v => v.cells.toList) = cells) (hlen : vs.length = len) (hp : parts = ((vs.zipIdx).map fun p => (p.2, p.1)).toArray) (hsmall : len * n ≤ 2 ^ 24) (hpos : len * n ≠ 0)
    (hk : ∀ w', New w w' cells e → K (.slice (some ⟨w.heap.size, 0, none⟩) len len) w') : Do P (Instr.buildSlice t len parts) w K Kp := by
  refine Do_buildSlice (cells := cells) hu he hsmall hpos ?_ hk
  have := fill_list (n := n) vs 0 [] (((List.range (len * n)).map (z.toArray[· % z.length]!))) hn (by simp) (by simp [hlen])
  rw [hp, ← hc]
  have e : ((List.range (len * n)).map (z.toArray[· % z.length]!)).toArray = (Array.range (len * n)).map (z.toArray[· % z.length]!) := by
    apply Array.ext' ; simp
  rw [List.nil_append, e] at this
  simpa using this
/-- .. of elements of one cell. -/
theorem Do_build1L {bytes len : Nat} {z vs : List Value} {parts : Array (Nat × Value)} (hu : P.underlying t = some (.slice e)) (he : rowIs P e 1 bytes z) (h1 : ∀ v ∈ vs, v.oneCell' = true)
    (hlen : vs.length = len) (hp : parts = ((vs.zipIdx).map fun p => (p.2, p.1)).toArray) (hsmall : len ≤ 2 ^ 24) (hpos : len ≠ 0)
    (hk : ∀ w', New w w' vs e → K (.slice (some ⟨w.heap.size, 0, none⟩) len len) w') : Do P (Instr.buildSlice t len parts) w K Kp := by
  refine Do_buildL hu he (fun v hv => by rw [cells1 (h1 v hv)]; rfl) ?_ hlen hp (by omega) (by omega) hk
  clear hlen hp hk
  induction vs with
  | nil => rfl
  | cons v vs ih => rw [List.flatMap_cons, ih (fun u hu => h1 u (List.mem_cons_of_mem _ hu)), cells1 (h1 v (List.mem_cons_self ..))]; rfl
theorem pu_ext {xs : Array Value} {i : Nat} {v : Value} (h : xs[i]? = some v) : Pu P (Instr.extract (.tuple xs) i) v := fun w => by simp [Instr.extract, h]
theorem run_loadVarAgg {d : TypeDesc} (hu : P.underlying t = some d) (hd : aggD d = true) {a : Addr} {l : List Value} (hs : sizeAt P t = some l.length) (hc : ∀ j v, l[j]? = some v → w.cell? (a.add j) = some v) :
    (loadVar t a).run P w = .ok (.agg l.toArray) w := by
  have h := run_loadAgg (P := P) hu hd hs hc
  simpa [Instr.loadAt, Instr.sureAddr] using h
theorem run_loadVar1 {d : TypeDesc} (hu : P.underlying t = some d) (hd : aggD d = false) {a : Addr} {v : Value} (hc : w.cell? a = some v) : (loadVar t a).run P w = .ok v w := by
  have h := run_load1 (P := P) hu hd hc
  simpa [Instr.loadAt, Instr.sureAddr] using h
theorem PureQ_loadAgg {A : World → Prop} {K : Value → Prop} {d : TypeDesc} {a : Addr} {l : List Value} (hu : P.underlying t = some d) (hd : aggD d = true) (hs : sizeAt P t = some l.length) (hc : ∀ z, A z → ∀ j v, l[j]? = some v → z.cell? (a.add j) = some v) (hk : K (.agg l.toArray)) : PureQ P A (Instr.loadAt t (.pointer (some a))) K := PureQ_at (fun z hz => run_loadAgg hu hd hs (hc z hz)) hk
theorem pu_boolne {a b : Bool} {x y : Operand} (hu : P.underlying t = some .bool) : Pu P (do eqGuard .neq t x y (.bool a) (.bool b); binOp .neq t (.bool a) (.bool b) : Sem Value) (.bool (a != b)) := fun w => by
  simp [eqGuard, binOp, run_equal_bool w t a b hu, bne]
theorem run_lenMap {ty kt et : TypeId} {m clock : Nat} {es : List MapEntry} {fl : Array Bool} (hu : P.underlying t = some (.map kt et)) (hb : MapB w m es clock) : (builtin .len #[t] ty fl #[.map (some m)]).run P w = .ok (.value (i64 es.length)) w := by
  refine run_value ?_
  have hb' : w.heap[m]? = some (.map es.toArray clock) := hb
  simp [Builtin.len_, run_underlying' hu, goInt, MapKept.run_getObj_map hb', Result.andThen]
theorem pu_minN {a b : Nat} {ts : Array TypeId} {ty : TypeId} {fl : Array Bool} : PuN P (builtin .min ts ty fl #[i64 a, i64 b]) (i64 (min a b : Nat)) := fun w => by
  rw [run_min]
  have : (if (b : Int) < (a : Int) then (b : Int) else (a : Int)) = ((min a b : Nat) : Int) := by split <;> omega
  rw [this]
theorem PureN_pu' {A : World → Prop} {s : Sem Next} {K : Value → Prop} {v : Value} (h : PuN P s v) (hk : K v) : PureN P A s K := PureN_of h hk
end

theorem BoolS {b : Bool} {A B : Prop} (h1 : b = true → A) (h2 : b = false → B) : BoolV (.bool b) (fun c => SplitB c A B) := SplitB_b h1 h2
theorem BoolS_if {p : Prop} [Decidable p] {A B : Prop} (h1 : p → A) (h2 : ¬ p → B) : BoolV (.bool (decide p)) (fun c => SplitB c A B) := SplitB_b (fun h => h1 (of_decide_eq_true h)) (fun h => h2 (of_decide_eq_false h))
theorem SplitB_if {p : Prop} [Decidable p] {A B : Prop} (h1 : p → A) (h2 : ¬ p → B) : SplitB (decide p) A B := SplitB_b (fun h => h1 (of_decide_eq_true h)) (fun h => h2 (of_decide_eq_false h))
theorem BoolV_i {b : Bool} {F : Bool → Prop} (h : F b) : BoolV (.bool b) F := h
theorem BoolT {A B : Prop} (h : A) : BoolV (.bool true) (fun c => SplitB c A B) := h
theorem BoolF {A B : Prop} (h : B) : BoolV (.bool false) (fun c => SplitB c A B) := h
/-- An element's place, as a function of the slice's value. -/
def elemP (v : Value) (k : Nat) : Value := match v with | .slice (some a) _ _ => .pointer (some (a.add k)) | v => v
theorem Sees.indexP {P : Program} {w : World} {v : Value} {m s i : Nat} {l : List Value} {t e : TypeId} {k : IntKind} (hv : Sees w v m l) (hu : P.underlying t = some (.slice e)) (hs : sizeAt P e = some s) (hi : i < m) {n : Int} (hn : n = (i : Int) := by rfl) :
    Pu P (Instr.indexAt t v (.int k n)) (elemP v (i * s)) := by
  subst hn
  rcases hv with ⟨_, rfl, _⟩ | ⟨a, c, rfl, h2, h3, h4⟩
  · omega
  · intro w
    have := run_indexSl (k := k) (c := c) hu hs a (by omega : (0 : Int) ≤ i) (by omega : (i : Int) < m) w
    simpa [elemP] using this
theorem Sees.loadP {P : Program} {w : World} {v u : Value} {m k : Nat} {l : List Value} {t : TypeId} {d : TypeDesc} (hv : Sees w v m l) (hu : P.underlying t = some d) (hd : aggD d = false) (hk : l[k]? = some u) :
    (Instr.loadAt t (elemP v k)).run P w = .ok u w := by
  rcases hv with ⟨_, _, rfl⟩ | ⟨a, c, rfl, h2, h3, h4⟩
  · simp at hk
  · exact run_load1 hu hd (h4 k u hk)
theorem Sees.loadPA {P : Program} {w : World} {v : Value} {m k : Nat} {l us : List Value} {t : TypeId} {d : TypeDesc} (hv : Sees w v m l) (hu : P.underlying t = some d) (hd : aggD d = true) (hs : sizeAt P t = some us.length) (h0 : us ≠ []) (hk : ∀ j u, us[j]? = some u → l[k + j]? = some u) :
    (Instr.loadAt t (elemP v k)).run P w = .ok (.agg us.toArray) w := by
  rcases hv with ⟨_, _, rfl⟩ | ⟨a, c, rfl, h2, h3, h4⟩
  · cases us with
    | nil => exact absurd rfl h0
    | cons u us => have := hk 0 u rfl; simp at this
  · exact run_loadAgg hu hd hs fun j u hj => by rw [Addr.add_add]; exact h4 _ _ (hk j u hj)
/-- Slices of bytes, side by side. -/
structure AllSee (w : World) (vs : List Value) (ps : List (List UInt8)) : Prop where
  len : vs.length = ps.length
  at_ : ∀ (i : Nat) v p, vs[i]? = some v → ps[i]? = some p → Sees w v p.length (p.map u8)
theorem AllSee.nil (w : World) : AllSee w [] [] := ⟨rfl, fun i v p h => by simp at h⟩
theorem AllSee.cons {w : World} {v : Value} {p : List UInt8} {vs : List Value} {ps : List (List UInt8)} (h : Sees w v p.length (p.map u8)) (hs : AllSee w vs ps) : AllSee w (v :: vs) (p :: ps) :=
  ⟨by simp [hs.len], fun i => by
    cases i with
    | zero => intro v' p' h1 h2; cases h1; cases h2; exact h
    | succ i => intro v' p' h1 h2; exact hs.at_ i v' p' (by simpa using h1) (by simpa using h2)⟩
theorem AllSee.ext {w w' : World} {vs : List Value} {ps : List (List UInt8)} (h : AllSee w vs ps) (hx : Ext w w') : AllSee w' vs ps := ⟨h.len, fun i v p h1 h2 => (h.at_ i v p h1 h2).ext hx⟩
end Go.Vc
