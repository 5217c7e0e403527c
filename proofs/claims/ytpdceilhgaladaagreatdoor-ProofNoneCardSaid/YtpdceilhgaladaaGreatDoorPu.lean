/- Operations that ask nothing of the world, for both kinds of step. -/
import Derived.Test.YtpdceilhgaladaaGreatDoorMem
namespace Go.Vc
open Go.RowKit

/-- The operation gives that value in every world, and leaves it. -/
def Pu (P : Program) (s : Sem Value) (v : Value) : Prop := ∀ w, s.run P w = .ok v w
def PuN (P : Program) (s : Sem Next) (v : Value) : Prop := ∀ w, s.run P w = .ok (.value v) w

/-- It returned a value, of which (and of the world behind it) that holds. -/
def Ret (Q : Value → World → Prop) : Ending → World → Prop := fun e w => ∃ v, e = .returned v ∧ Q v w
theorem Ret.of {Q : Value → World → Prop} {v : Value} {w : World} (h : Q v w) : Ret Q (.returned v) w := ⟨v, rfl, h⟩
theorem Ret.mono {Q Q' : Value → World → Prop} {e : Ending} {w : World} (h : Ret Q e w) (hk : ∀ v w, Q v w → Q' v w) : Ret Q' e w := by
  obtain ⟨v, rfl, h⟩ := h; exact ⟨v, rfl, hk _ _ h⟩
theorem CallS_r {P : Program} {f : FuncId} {args : Array Value} {w : World} {K : Value → World → Prop} {Kp : List PanicEntry → World → Prop} {Q : Value → World → Prop} (h : Calls P f args w (Ret Q)) (hk : ∀ v w', Q v w' → K v w') : CallS P f args w (retK K Kp) :=
  ⟨h.mono fun e w' he => by obtain ⟨v, rfl, hq⟩ := he; exact hk v w' hq⟩
/-- .. of a function that leaves the world, and of whose value all is known. -/
theorem CallS_v {P : Program} {f : FuncId} {args : Array Value} {w : World} {K : Value → World → Prop} {Kp : List PanicEntry → World → Prop} {v : Value} (h : Calls P f args w (Ret fun v' w' => v' = v ∧ w' = w)) (hk : K v w) : CallS P f args w (retK K Kp) :=
  CallS_r h fun _ _ ⟨e1, e2⟩ => by rw [e1, e2]; exact hk

section
variable {P : Program} {w : World} {K : Value → World → Prop} {Kp : List PanicEntry → World → Prop} {v : Value} {t e : TypeId}
theorem Do_pu {s : Sem Value} (h : Pu P s v) (hk : K v w) : Do P s w K Kp := Do_of (h w) hk
theorem DoN_pu {s : Sem Next} (h : PuN P s v) (hk : K v w) : DoN P s w K Kp := DoN_of (h w) hk
theorem PureQ_pu {A : World → Prop} {s : Sem Value} {K : Value → Prop} (h : Pu P s v) (hk : K v) : PureQ P A s K := PureQ_of h hk
theorem PureN_pu {A : World → Prop} {s : Sem Next} {K : Value → Prop} (h : PuN P s v) (hk : K v) : PureN P A s K := PureN_of h hk

theorem CondV_if {p : Prop} [Decidable p] {A B : Prop} (h1 : p → A) (h2 : ¬ p → B) : CondV (.bool (decide p)) A B := by
  by_cases h : p
  · simpa [CondV, SplitB, h] using h1 h
  · simpa [CondV, SplitB, h] using h2 h
theorem CondV_b {b : Bool} {A B : Prop} (h1 : b = true → A) (h2 : b = false → B) : CondV (.bool b) A B := by
  cases b
  · exact h2 rfl
  · exact h1 rfl
theorem CondT {A B : Prop} (h : A) : CondV (.bool true) A B := h
theorem CondF {A B : Prop} (h : B) : CondV (.bool false) A B := h
theorem SplitB_b {b : Bool} {A B : Prop} (h1 : b = true → A) (h2 : b = false → B) : SplitB b A B := by
  cases b
  · exact h2 rfl
  · exact h1 rfl

theorem pu_iadd {a b : Int} (h1 : -9223372036854775808 ≤ a + b) (h2 : a + b < 9223372036854775808) : Pu P (binOp .add t (i64 a) (i64 b)) (i64 (a + b)) := fun w => by rw [run_add, wrap_i64_in h1 h2]
theorem pu_isub {a b : Int} (h1 : -9223372036854775808 ≤ a - b) (h2 : a - b < 9223372036854775808) : Pu P (binOp .sub t (i64 a) (i64 b)) (i64 (a - b)) := fun w => by rw [run_sub, wrap_i64_in h1 h2]
theorem pu_imul {a b : Int} (h1 : -9223372036854775808 ≤ a * b) (h2 : a * b < 9223372036854775808) : Pu P (binOp .mul t (i64 a) (i64 b)) (i64 (a * b)) := fun w => by rw [run_mul, wrap_i64_in h1 h2]
theorem pu_ineg {a : Int} (h1 : -9223372036854775808 ≤ -a) (h2 : -a < 9223372036854775808) : Pu P (Op.unary .neg (i64 a)) (i64 (-a)) := fun w => by rw [run_neg, Int.zero_sub, wrap_i64_in h1 h2]
theorem pu_iquo {a b : Int} (h1 : 0 ≤ a) (h2 : a < 9223372036854775808) (hb : 0 < b) : Pu P (binOp .quo t (i64 a) (i64 b)) (i64 (a / b)) := fun w => by
  rw [run_quo _ _ _ (by omega), Int.tdiv_eq_ediv_of_nonneg h1, wrap_i64_in]
  · have := Int.ediv_nonneg h1 (by omega : 0 ≤ b); omega
  · have := Int.ediv_le_self b h1; omega
theorem pu_irem {a b : Int} (h1 : 0 ≤ a) (hb : 0 < b) : Pu P (binOp .rem t (i64 a) (i64 b)) (i64 (a % b)) := fun w => by
  rw [run_rem _ _ _ (by omega), Int.tmod_eq_emod_of_nonneg h1]
theorem pu_lss {k : IntKind} {a b : Int} : Pu P (binOp .lss t (.int k a) (.int k b)) (.bool (decide (a < b))) := run_lss k a b
theorem pu_leq {k : IntKind} {a b : Int} : Pu P (binOp .leq t (.int k a) (.int k b)) (.bool (decide (a ≤ b))) := run_leq k a b
theorem pu_gtr {k : IntKind} {a b : Int} : Pu P (binOp .gtr t (.int k a) (.int k b)) (.bool (decide (b < a))) := run_gtr k a b
theorem pu_geq {k : IntKind} {a b : Int} : Pu P (binOp .geq t (.int k a) (.int k b)) (.bool (decide (b ≤ a))) := run_geq k a b
theorem pu_eql {k : IntKind} {a b : Int} {x y : Operand} : Pu P (do eqGuard .eql t x y (.int k a) (.int k b); binOp .eql t (.int k a) (.int k b) : Sem Value) (.bool (a == b)) := run_eql k a b x y
theorem pu_neq {k : IntKind} {a b : Int} {x y : Operand} : Pu P (do eqGuard .neq t x y (.int k a) (.int k b); binOp .neq t (.int k a) (.int k b) : Sem Value) (.bool (a != b)) := run_neq k a b x y
theorem pu_not {b : Bool} : Pu P (Op.unary .not (.bool b)) (.bool (!b)) := run_not b
theorem pu_uadd {x y : UInt64} : Pu P (binOp .add t (u64 x) (u64 y)) (u64 (x + y)) := run_u64_add x y
theorem pu_uand {x y : UInt64} : Pu P (binOp .and t (u64 x) (u64 y)) (u64 (x &&& y)) := run_u64_and x y
theorem pu_uor {x y : UInt64} : Pu P (binOp .or t (u64 x) (u64 y)) (u64 (x ||| y)) := run_u64_or x y
theorem pu_uxor {x y : UInt64} : Pu P (binOp .xor t (u64 x) (u64 y)) (u64 (x ^^^ y)) := run_u64_xor x y
theorem pu_unot {x : UInt64} : Pu P (Op.unary .xor (u64 x)) (u64 (~~~x)) := run_u64_not x
theorem pu_ushr {x : UInt64} {yk : IntKind} {n : Int} (h0 : 0 ≤ n) (h1 : n ≤ 64) : Pu P (binOp .shr t (u64 x) (.int yk n)) (u64 (shr x n.toNat)) := run_u64_shr x yk n h0 h1
theorem pu_ushl {x : UInt64} {yk : IntKind} {n : Int} (h0 : 0 ≤ n) (h1 : n ≤ 64) : Pu P (binOp .shl t (u64 x) (.int yk n)) (u64 (shl x n.toNat)) := run_u64_shl x yk n h0 h1
theorem pu_u8u64 {s d : TypeId} {ds : TypeDesc} {x : UInt8} (hs : P.underlying s = some ds) (hd : P.underlying d = some (.int .u64)) : Pu P (convert s d (u8 x)) (u64 (UInt64.ofNat x.toNat)) := run_u8_to_u64 hs hd x
theorem pu_u64u8 {s d : TypeId} {ds : TypeDesc} {x : UInt64} (hs : P.underlying s = some ds) (hd : P.underlying d = some (.int .u8)) : Pu P (convert s d (u64 x)) (u8 (UInt8.ofNat x.toNat)) := run_u64_to_u8 hs hd x
theorem pu_i64u64 {s d : TypeId} {ds : TypeDesc} {n : Nat} (hs : P.underlying s = some ds) (hd : P.underlying d = some (.int .u64)) : Pu P (convert s d (i64 n)) (u64 (UInt64.ofNat n)) := fun w => by rw [run_conv hs hd, u64_wrap]
theorem pu_conv {s d : TypeId} {ds : TypeDesc} {k k0 : IntKind} {a : Int} (hs : P.underlying s = some ds) (hd : P.underlying d = some (.int k)) : Pu P (convert s d (.int k0 a)) (.int k (k.wrap a)) := run_conv hs hd k0 a
theorem pu_nilptr {a : Addr} : PuN P (nilS (.pointer (some a))) (.pointer (some a)) := run_nil_ptr a
theorem pu_field {fs : Array Field} {f : Nat} {fld : Field} {n o g i : Nat} (hu : P.underlying t = some (.struct fs)) (hf : fs[f]? = some fld) (hs : sizeAt P fld.type = some (n + 1)) (ho : fld.offset = o) :
    Pu P (Instr.fieldAt t (.pointer (some ⟨g, i, none⟩)) f) (.pointer (some ⟨g, i + o, none⟩)) := run_fieldAt hu hf hs ho g i
theorem pu_indexSl {n c s : Nat} {i : Int} {k : IntKind} {a : Addr} (hu : P.underlying t = some (.slice e)) (hs : sizeAt P e = some s) (h0 : 0 ≤ i) (hi : i < n) :
    Pu P (Instr.indexAt t (.slice (some a) n c) (.int k i)) (.pointer (some (a.add (i.toNat * s)))) := run_indexSl hu hs a h0 hi
theorem pu_indexArr {n s g o : Nat} {i : Int} {k : IntKind} (hu : P.underlying t = some (.array n e)) (hs : sizeAt P e = some s) (h0 : 0 ≤ i) (hi : i < n) :
    Pu P (Instr.indexAt t (.pointer (some ⟨g, o, none⟩)) (.int k i)) (.pointer (some ⟨g, o + i.toNat * s, none⟩)) := run_indexArr hu hs h0 hi
theorem pu_min {k : IntKind} {a b : Int} {ts : Array TypeId} {ty : TypeId} {fl : Array Bool} : PuN P (builtin .min ts ty fl #[.int k a, .int k b]) (.int k (if b < a then b else a)) := run_min
theorem pu_len {ty : TypeId} {m : Nat} {l : List Value} {v : Value} {fl : Array Bool} (hu : P.underlying t = some (.slice e)) (h : Sees w v m l) : PuN P (builtin .len #[t] ty fl #[v]) (i64 m) := run_len hu h
/-- An element of a slice that is read, its place. -/
theorem Sees.indexAt {m s : Nat} {l : List Value} {i : Nat} {k : IntKind} (hv : Sees w v m l) (hu : P.underlying t = some (.slice e)) (hs : sizeAt P e = some s) (hi : i < m) :
    ∃ a : Addr, Pu P (Instr.indexAt t v (.int k i)) (.pointer (some a)) ∧ ∀ j u, l[i * s + j]? = some u → w.cell? (a.add j) = some u := by
  rcases hv with ⟨_, rfl, _⟩ | ⟨a, c, rfl, h2, h3, h4⟩
  · omega
  · refine ⟨a.add (i * s), fun w => ?_, fun j u hj => ?_⟩
    · have := run_indexSl (k := k) (c := c) hu hs a (by omega : (0 : Int) ≤ i) (by omega : (i : Int) < m) w
      simpa using this
    · rw [Addr.add_add]; exact h4 _ _ hj
theorem Do_load {d : TypeDesc} {a : Addr} (hu : P.underlying t = some d) (hd : aggD d = false) (hc : w.cell? a = some v) (hk : K v w) : Do P (Instr.loadAt t (.pointer (some a))) w K Kp := Do_of (run_load1 hu hd hc) hk
theorem PureQ_load {A : World → Prop} {K : Value → Prop} {d : TypeDesc} {a : Addr} (hu : P.underlying t = some d) (hd : aggD d = false) (hc : ∀ z, A z → z.cell? a = some v) (hk : K v) : PureQ P A (Instr.loadAt t (.pointer (some a))) K := PureQ_at (fun z hz => run_load1 hu hd (hc z hz)) hk
theorem Do_loadAgg {d : TypeDesc} {a : Addr} {l : List Value} (hu : P.underlying t = some d) (hd : aggD d = true) (hs : sizeAt P t = some l.length) (hc : ∀ j v, l[j]? = some v → w.cell? (a.add j) = some v) (hk : K (.agg l.toArray) w) : Do P (Instr.loadAt t (.pointer (some a))) w K Kp := Do_of (run_loadAgg hu hd hs hc) hk
/-- A part of a slice that is read. -/
theorem Sees.sliceAt {m s lo hi : Nat} {l : List Value} (hv : Sees w v m l) (hl : l.length = m * s) (hu : P.underlying t = some (.slice e)) (hs : sizeAt P e = some s) (ol oh : Option Value)
    (hol : ol = some (i64 lo) ∨ ol = none ∧ lo = 0) (hoh : oh = some (i64 hi) ∨ oh = none ∧ hi = m) (h1 : lo ≤ hi) (h2 : hi ≤ m) :
    ∃ v', Pu P (Instr.sliceAt t v ol oh none) v' ∧ Sees w v' (hi - lo) ((l.drop (lo * s)).take ((hi - lo) * s)) ∧ (v'.ownBlock = v.ownBlock) := by
  rcases hv with ⟨rfl, rfl, rfl⟩ | ⟨a, c, rfl, h3, h4, h5⟩
  · obtain rfl : hi = 0 := by omega
    obtain rfl : lo = 0 := by omega
    exact ⟨_, fun w => run_sliceNil hu hs ol oh (hol.imp id And.left) (hoh.imp id And.left) rfl rfl w, .inl ⟨rfl, rfl, by simp⟩, rfl⟩
  · refine ⟨_, fun w => run_sliceSl hu hs ol oh hol hoh h1 (by omega) w, .inr ⟨_, _, rfl, by omega, by omega, ?_⟩, ?_⟩
    · intro j u hj
      rw [List.getElem?_take] at hj
      split at hj
      · rename_i hlt
        rw [List.getElem?_drop] at hj
        rw [if_neg (by intro e; subst e; have : hi - c = 0 := by omega
                       rw [this] at hlt; omega), Addr.add_add]
        exact h5 _ _ hj
      · cases hj
    · show some (Addr.block _) = some a.block
      split
      · rfl
      · unfold Addr.add; split <;> rfl
theorem pu_sliceArr {n s g o l h : Nat} (hu : P.underlying t = some (.array n e)) (hs : sizeAt P e = some s) (lo hi : Option Value) (hlo : lo = some (.int .i64 l) ∨ lo = none ∧ l = 0) (hhi : hi = some (.int .i64 h) ∨ hi = none ∧ h = n) (h1 : l ≤ h) (h2 : h ≤ n) (hne : l ≠ n) :
    Pu P (Instr.sliceAt t (.pointer (some ⟨g, o, none⟩)) lo hi none) (.slice (some ⟨g, o + l * s, none⟩) (h - l) (n - l)) := run_sliceArr hu hs lo hi hlo hhi h1 h2 hne
/-- copy into a known block. -/
theorem DoN_copy {g o dn dc sn sc : Nat} {a : Addr} {cur cs : List Value} {tb t' ty : TypeId} {fl : Array Bool} (hu : P.underlying t = some (.slice e)) (hs : sizeAt P e = some 1) (hg : Blk w g cur tb) (hn : cs.length = Nat.min sn dn)
    (hsrc : ∀ j v, cs[j]? = some v → w.cell? (a.add j) = some v) (hfit : o + cs.length ≤ cur.length) (h1 : ∀ v ∈ cs, v.oneCell' = true)
    (hk : ∀ w', Blk w' g (cur.take o ++ cs ++ cur.drop (o + cs.length)) tb → w.grownBy w' (some g) → K (i64 cs.length) w') :
    DoN P (builtin .copy #[t, t'] ty fl #[.slice (some ⟨g, o, none⟩) dn dc, .slice (some a) sn sc]) w K Kp := by
  refine DoN_value (Do_of (run_copy_row (P := P) w t t' ty e g o dn dc a sn sc cur.toArray tb cs hu hs hg hn hsrc (by simpa using hfit) h1) (hk _ ?_ (grown_setRow g _)))
  exact Blk.setRow hg _
end
theorem list8 {α : Type} {l : List α} (h : l.length = 8) : ∃ a b c d e f g i, l = [a, b, c, d, e, f, g, i] := by
  match l, h with
  | [a, b, c, d, e, f, g, i], _ => exact ⟨a, b, c, d, e, f, g, i, rfl⟩
end Go.Vc
