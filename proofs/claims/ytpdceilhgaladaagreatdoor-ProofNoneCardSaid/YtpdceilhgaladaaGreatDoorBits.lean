/- Keys' digests, shards and ways; a strings.Builder that bytes are written to. -/
import Derived.Test.YtpdceilhgaladaaGreatDoorVShard
import Derived.Test.YtpdceilhgaladaaGreatDoorTree
import Derived.Test.YtpdceilhgaladaaGreatDoorData
import Derived.Lib.ConvBytes
import Derived.Lib.Builder
namespace Go.Vc
open Go.RowKit
section
variable {P : Program} {w : World} {K : Value → World → Prop} {Kp : List PanicEntry → World → Prop} {t e : TypeId}
/-- []byte(s) -/
theorem Do_s2b {s d : TypeId} {u : TypeDesc} {l : List UInt8} (hs : P.underlying s = some u) (hd : P.underlying d = some (.slice e)) (he : P.underlying e = some (.int .u8)) (hl : l.length ≤ 70368744177664)
    (hk : ∀ v w', SeesB w' v l → Ext w w' → (∀ g, v.ownBlock = some g → w.heap.size ≤ g) → K v w') : Do P (convert s d (str l)) w K Kp := by
  refine Do_of (Lib.run_convert_string_bytes w s d e ⟨l.toArray⟩ hs hd he) (hk _ _ ?_ ?_ ?_)
  · have hsz : (⟨l.toArray⟩ : ByteArray).size = l.length := rfl
    refine .inr ⟨_, _, by rw [hsz], ?_, ?_, fun j u hj => ?_⟩
    · exact grownCap_ge w l.length 0 e
    · exact grownCap_le_maxLen w l.length 0 e (by simp only [maxLen]; omega)
    · obtain ⟨x, hx, rfl⟩ : ∃ x, l[j]? = some x ∧ u8 x = u := by simpa using hj
      have hlt := (List.getElem?_eq_some_iff.1 hx).1
      rw [add_off, Nat.zero_add, Lib.bytesWorld_cell w e _ j (by rw [hsz]; exact hlt)]
      simp [u8, hx]
  · exact Ext.freeze ((Ext.drew w).alloc (Nat.le_refl _) _) (Nat.le_refl _) _
  · intro g hg; cases hg; exact Nat.le_refl _
theorem and1_u8 (x : Fin 256) : IntKind.u8.wrap ((BitVec.ofInt 8 (x.val : Int) &&& BitVec.ofInt 8 1).toNat : Int) = ((x.val % 2 : Nat) : Int) := by
  revert x; decide +kernel
theorem pu_and1 {n : Nat} (h : n < 256) : Pu P (binOp .and t (.int .u8 n) (.int .u8 1)) (.int .u8 (n % 2 : Nat)) := fun w => by
  have := and1_u8 ⟨n, h⟩
  show Result.ok (Value.int .u8 (IntKind.u8.wrap ((BitVec.ofInt 8 (n : Int) &&& BitVec.ofInt 8 1).toNat : Int))) w = _
  rw [this]
theorem pu_shr8 {n k : Nat} (hk : k ≤ 8) : Pu P (binOp .shr t (.int .u8 n) (.int .i64 k)) (.int .u8 (n / 2 ^ k : Nat)) := fun w => by
  rw [run_shr .u8 .i64 n k (by omega)]
  have : min (k : Int).toNat IntKind.u8.bits = k := by simp [IntKind.bits]; omega
  rw [this, Int.fdiv_eq_ediv_of_nonneg _ (by exact_mod_cast Nat.zero_le _)]
  norm_cast
theorem pu_shr8u {n k : Nat} (hk : k ≤ 8) : Pu P (binOp .shr t (.int .u8 n) (.int .u64 k)) (.int .u8 (n / 2 ^ k : Nat)) := fun w => by
  rw [run_shr .u8 .u64 n k (by omega)]
  have : min (k : Int).toNat IntKind.u8.bits = k := by simp [IntKind.bits]; omega
  rw [this, Int.fdiv_eq_ediv_of_nonneg _ (by exact_mod_cast Nat.zero_le _)]
  norm_cast
end
end Go.Vc

namespace Go.Proofs.YtpdceilhgaladaaGreatDoor
open Go.Vc Go.Vc.Sha Go.RowKit
theorem noEscape_run (x : Value) (w : World) : (callFunc 176 #[x]).run Tryz.prog w = .ok (.value x) w := by kernel_rfl
abbrev keyS (l : List UInt8) : List UInt8 := shaS (6 :: l)
/-- A key's digest. -/
theorem shardof_c {w : World} (hk : Laid w) (l : List UInt8) (hl : l.length ≤ 35184372088000) : Calls Tryz.prog 44 #[str l] w (Ret fun v w' => v = ptr w.heap.size ∧ Blk w' w.heap.size ((keyS l).map u8) 104 ∧ (keyS l).length = 64 ∧ Ext w w') := by
  refine vc_shard_of ?_
  unfold V_shard_of
  refine Do_alloc (l := List.replicate 64 (u8 0)) (by kernel_rfl) fun w1 n1 => ?_
  refine ⟨Ext, fun i v z => (i = 2 → SeesB z v [6]) ∧ (i = 4 → SeesB z v l) ∧ (i = 5 → ∃ vs, Sees z v 2 vs ∧ AllSee z vs [[6], l]) ∧ (i = 6 → SeesB z v (keyS l) ∧ (keyS l).length = 64), Pre.ext,
    fun i v z z' hx h => ⟨fun e => (h.1 e).ext hx, fun e => (h.2.1 e).ext hx, fun e => let ⟨vs, a, b⟩ := h.2.2.1 e; ⟨vs, a.ext hx, b.ext hx⟩, fun e => ⟨(h.2.2.2 e).1.ext hx, (h.2.2.2 e).2⟩⟩, ?_⟩
  refine PureQ_pu (pu_field Tryz.underlying104 rfl (n := 63) (o := 0) (by kernel_rfl) rfl) ?_
  refine PureQ_pu (pu_sliceArr (n := 64) (l := 0) (h := 64) Tryz.underlying102 (s := 1) (by kernel_rfl) none none (.inr ⟨rfl, rfl⟩) (.inr ⟨rfl, rfl⟩) (by omega) (by omega) (by omega)) ?_
  refine ⟨fun w2 hx _ => ?_, fun x6 => ?_⟩
  · refine Do_build1L (vs := [u8 6]) Tryz.underlying22 row8 (one_cons rfl one_nil) rfl rfl (by decide) (by decide) fun w3 n3 => ?_
    exact ⟨n3.ext, And.intro (fun _ => (Own.new (s := 1) n3 rfl (by decide)).sees) ⟨fun e => by (cases e), fun e => by (cases e), fun e => by (cases e)⟩⟩
  refine ⟨fun w4 hx _ => ?_, fun x8 => ?_⟩
  · refine Do_s2b Tryz.underlying9 Tryz.underlying22 Tryz.underlying5 (by omega) fun v w5 hs hx5 _ => ?_
    exact ⟨hx5, And.intro (fun e => by (cases e)) ⟨fun _ => hs, fun e => by (cases e), fun e => by (cases e)⟩⟩
  refine ⟨fun w6 hx hf => ?_, fun x9 => ?_⟩
  · have h8 := hf.1.2.1 rfl
    have h6 := hf.2.1.1 rfl
    refine Do_build1L (vs := [x6, x8]) Tryz.underlying55 rowBytes (one_cons (Sees.one h6) (one_cons (Sees.one h8) one_nil)) rfl rfl (by decide) (by decide) fun w7 n7 => ?_
    exact ⟨n7.ext, And.intro (fun e => by (cases e)) ⟨fun e => by (cases e), fun _ => ⟨_, (Own.new (s := 1) n7 rfl (by decide)).sees, .cons (h6.ext n7.ext) (.cons (h8.ext n7.ext) (.nil _))⟩, fun e => by (cases e)⟩⟩
  refine ⟨fun w8 hx hf => ?_, fun x10 => ?_⟩
  · obtain ⟨vs, hs, ha⟩ := hf.1.2.2.1 rfl
    refine CallS_r (shaSum_c (parts := [[6], l]) (hk.ext (n1.ext.trans ((Ext.drew _).trans hx))) hs ha.len ha.at_ (by simp; omega)) fun v w9 hh => ?_
    obtain ⟨ho, hx9, _⟩ := hh
    have e : ([[6], l] : List (List UInt8)).flatten = 6 :: l := by simp
    rw [e] at ho
    have h64 : (keyS l).length = 64 := by have := ho.1; simpa using this
    refine ⟨hx9, And.intro (fun e => by (cases e)) ⟨fun e => by (cases e), fun e => by (cases e), fun _ => ⟨?_, h64⟩⟩⟩
    have := ho.sees
    unfold SeesB
    rw [h64]; exact this
  intro w10 hx hf
  obtain ⟨h10, h64⟩ := hf.1.2.2.2 rfl
  have hx1 : Ext w w10 := n1.ext.trans ((Ext.drew _).trans hx)
  have hb : Blk w10 w.heap.size (List.replicate 64 (u8 0)) 104 := n1.blk.ext ((Ext.drew _).trans hx)
  rcases h10 with ⟨_, h0, _⟩ | ⟨a, c, rfl, _, _, hc⟩
  · rw [h64] at h0; cases h0
  · refine DoN_copy (cs := (keyS l).map u8) Tryz.underlying22 (by kernel_rfl) hb (by simp [h64]) hc (by simp [h64]) (one_u8 _) fun w11 hb11 hg11 => ?_
    refine Ret.of ⟨rfl, ?_, h64, hx1.grown hg11 (fun k e => by cases e; exact Nat.le_refl _)⟩
    have : (List.take 0 (List.replicate 64 (u8 0)) ++ (keyS l).map u8 ++ List.drop (0 + ((keyS l).map u8).length) (List.replicate 64 (u8 0))) = (keyS l).map u8 := by simp [h64]
    rw [this] at hb11
    exact hb11
/-- A key's shard. -/
def ofS (l : List UInt8) : Nat := ((keyS l).getD 0 0).toNat / 64
theorem ofS_lt (l : List UInt8) : ofS l < 4 := by unfold ofS; have := u8_lt ((keyS l).getD 0 0); omega
theorem shardOf_c {w : World} (hk : Laid w) (l : List UInt8) (hl : l.length ≤ 35184372088000) : Calls Tryz.prog 15 #[str l] w (Ret fun v w' => v = i64 (ofS l) ∧ Ext w w') := by
  refine vc_shard_Of ?_
  unfold V_shard_Of
  refine CallS_r (shardof_c hk l hl) fun x4 w1 hh => ?_
  obtain ⟨rfl, hb, h64, hx⟩ := hh
  refine DoN_pu pu_nilptr ?_
  refine Do_pu (pu_field Tryz.underlying104 rfl (n := 63) (o := 0) (by kernel_rfl) rfl) ?_
  refine Do_pu (pu_indexArr (n := 64) (i := 0) Tryz.underlying102 (s := 1) (by kernel_rfl) (by omega) (by omega)) ?_
  have hc : w1.cell? ⟨w.heap.size, 0 + 0 + (0 : Int).toNat * 1, none⟩ = some (u8 ((keyS l).getD 0 0)) := by
    have : 0 < (keyS l).length := by omega
    rw [hb.cell]; simp [List.getD, this]
  refine Do_load Tryz.underlying5 rfl hc ?_
  refine Do_pu (pu_shr8u (k := 6) (by omega)) ?_
  refine Do_pu (pu_conv Tryz.underlying5 Tryz.underlying3) ?_
  refine Ret.of ⟨?_, hx⟩
  rw [wrap_i64_in (by omega) (by have := u8_lt ((keyS l).getD 0 0); omega)]
  rfl
theorem grown_freeze (w : World) (r n : Nat) : w.grownBy (w.freeze ⟨r, 0, none⟩ n) (some r) := by
  have h1 := Lib.below_freeze (Below.refl r w) (p := ⟨r, 0, none⟩) (Nat.le_refl _) n
  refine ⟨h1.os, h1.tape, h1.output, h1.size, fun k _ hk => ?_⟩
  unfold World.freeze
  split <;> (try split) <;> (try rfl) <;> simp [Array.getElem?_modify, show r ≠ k from fun e => hk (by rw [e])]
/-! ### Loops over functions: the world -/
theorem begun_ext (w : World) (Rec : LoopState → Option Code → Obj) : Ext w (begunW w Rec) := ((Ext.refl w).alloc (Nat.le_refl _) _).alloc (by simp) _
theorem begun_size (w : World) (Rec : LoopState → Option Code → Obj) : (begunW w Rec).heap.size = w.heap.size + 2 := by simp [begunW]
theorem begun_mark (w : World) (Rec : LoopState → Option Code → Obj) : (begunW w Rec).heap[w.heap.size]? = some (.deferred (some [])) :=
  (Below.heap_alloc _ _ _ (by simp)).trans (World.alloc_heap_new w _)
theorem begun_rec (w : World) (Rec : LoopState → Option Code → Obj) : (begunW w Rec).heap[w.heap.size + 1]? = some (Rec .ready none) := by
  have := World.alloc_heap_new (w.alloc (.deferred (some []))) (Rec .ready none); rwa [World.size_alloc] at this
theorem put_grown (w : World) (l : Nat) (o : Obj) : w.grownBy (w.putObj l o) (some l) :=
  ⟨rfl, rfl, rfl, by simp, fun k _ hk => World.putObj_heap_other (fun e => hk (by rw [e]))⟩
theorem put_chg (w : World) (l : Nat) (o : Obj) : Chg w (w.putObj l o) (· = l) := (Chg.refl w _).grown (put_grown w l o) fun k e _ => by cases e; rfl
theorem Chg.heap {w w' : World} {S : Nat → Prop} {l : Nat} {o : Obj} (h : w.heap[l]? = some o) (hc : Chg w w' S) (hs : ¬ S l) : w'.heap[l]? = some o := (hc.block l (Array.getElem?_eq_some_iff.1 h).1 hs).trans h
theorem Ext.heap {w w' : World} {l : Nat} {o : Obj} (h : w.heap[l]? = some o) (hx : Ext w w') : w'.heap[l]? = some o := (hx.block l (Array.getElem?_eq_some_iff.1 h).1).trans h
theorem EndV_mark {P : Program} {res : World → (Ending → World → Prop) → Prop} {R : Ending → World → Prop} {w0 w : World} {u : FrameMode} {ds : List Deferred} (h : w.heap[w0.heap.size]? = some (.deferred (some []))) (hk : EndV P res R ds u (w.putObj w0.heap.size (.deferred none))) : EndV P res R (markD w0 :: ds) u w := ⟨h, hk⟩
theorem EndV_ret {P : Program} {res : World → (Ending → World → Prop) → Prop} {R : Ending → World → Prop} {w : World} (h : res w R) : EndV P res R [] .returning w := h
/-- What a loop over a function keeps of its own: the record, ready; the block of the mark. -/
structure Rnds (w0 : World) (Rec : LoopState → Option Code → Obj) (w : World) : Prop where
  rec_ : w.heap[w0.heap.size + 1]? = some (Rec .ready none)
  mark : w.heap[w0.heap.size]? = some (.deferred (some []))
theorem Rnds.start (w : World) (Rec : LoopState → Option Code → Obj) : Rnds w Rec (begunW w Rec) := ⟨begun_rec w Rec, begun_mark w Rec⟩
theorem Rnds.chg {w0 w w' : World} {Rec : LoopState → Option Code → Obj} {S : Nat → Prop} (h : Rnds w0 Rec w) (hc : Chg w w' S) (h0 : ¬ S w0.heap.size) (h1 : ¬ S (w0.heap.size + 1)) : Rnds w0 Rec w' := ⟨Chg.heap h.rec_ hc h1, Chg.heap h.mark hc h0⟩
theorem Rnds.ext {w0 w w' : World} {Rec : LoopState → Option Code → Obj} (h : Rnds w0 Rec w) (hx : Ext w w') : Rnds w0 Rec w' := ⟨Ext.heap h.rec_ hx, Ext.heap h.mark hx⟩
/-- One round, off its end. -/
theorem round_on {w0 w w' : World} {Rec : LoopState → Option Code → Obj} {K : Value → World → Prop} {S : Nat → Prop} (h : Rnds w0 Rec w) (hc : Chg (w.putObj (w0.heap.size + 1) (Rec .busy none)) w' S) (h1 : ¬ S (w0.heap.size + 1))
    (hk : K (.bool true) (w'.putObj (w0.heap.size + 1) (Rec .ready none))) : roundK Rec (w0.heap.size + 1) K .normal w' :=
  ⟨Chg.heap (World.putObj_heap_same (Array.getElem?_eq_some_iff.1 h.rec_).1) hc h1, hk⟩
/-- All that a round does: what the body changes, and the record, which is as it was. -/
theorem round_chg {w0 w w' : World} {Rec : LoopState → Option Code → Obj} {S : Nat → Prop} (h : Rnds w0 Rec w) (hc : Chg (w.putObj (w0.heap.size + 1) (Rec .busy none)) w' S) : Chg w (w'.putObj (w0.heap.size + 1) (Rec .ready none)) S := by
  have h1 := (put_chg w (w0.heap.size + 1) (Rec .busy none))
  have hlt : w0.heap.size + 1 < w'.heap.size := by have := (Array.getElem?_eq_some_iff.1 h.rec_).1; have := hc.size; simp at this; omega
  refine ⟨hc.os.trans h1.os, hc.tape.trans h1.tape, hc.output.trans h1.output, ?_, fun k hk hS => ?_⟩
  · have := hc.size; simp at this ⊢; exact this
  · by_cases e : k = w0.heap.size + 1
    · subst e; rw [World.putObj_heap_same hlt]; exact h.rec_.symm
    · rw [World.putObj_heap_other e, hc.block k (by simpa using hk) hS, World.putObj_heap_other e]

/-! ### A builder of one's own -/
structure Bld (w : World) (g : Nat) (S : Nat → Prop) (l : List UInt8) : Prop where
  ex : ∃ p v, Blk w g [p, v] 140 ∧ (p = .pointer none ∨ p = ptr g) ∧ Own w 5 1 v l.length (l.map u8) ∧ (∀ k, v.ownBlock = some k → S k) ∧ (l = [] → v = .slice none 0 0)
  no : ¬ S g
  up : ∀ k, w.heap.size ≤ k → S k
theorem Bld.ext {w w' : World} {g : Nat} {S : Nat → Prop} {l : List UInt8} (h : Bld w g S l) (hx : Ext w w') : Bld w' g S l :=
  let ⟨p, v, hb, hp, ho, hk, hn⟩ := h.ex
  ⟨⟨p, v, hb.ext hx, hp, ho.ext hx, hk, hn⟩, h.no, fun k hk => h.up k (Nat.le_trans hx.size hk)⟩
/-- Blocks that neither the builder is nor its bytes may lie in. -/
theorem Bld.chg {w w' : World} {g : Nat} {l : List UInt8} {S S1 : Nat → Prop} (h : Bld w g S l) (hc : Chg w w' S1) (hs : ∀ k, S1 k → k ≠ g ∧ ¬ S k) : Bld w' g S l := by
  obtain ⟨p, v, hb, hp, ho, hk, hn⟩ := h.ex
  exact ⟨⟨p, v, hb.chg hc fun e => (hs _ e).1 rfl, hp, ho.chg hc fun k e hS => (hs _ hS).2 (hk k e), hk, hn⟩, h.no, fun k hk => h.up k (Nat.le_trans hc.size hk)⟩
/-- A block made behind it is none of its bytes'. -/
theorem Bld.but {w w' : World} {g b : Nat} {l : List UInt8} {S : Nat → Prop} (h : Bld w g S l) (hx : Ext w w') (hb : w.heap.size ≤ b) (hb' : b < w'.heap.size) : Bld w' g (fun k => S k ∧ k ≠ b) l := by
  obtain ⟨p, v, hbk, hp, ho, hk, hn⟩ := h.ex
  exact ⟨⟨p, v, hbk.ext hx, hp, ho.ext hx, fun k e => ⟨hk k e, by have := ho.lt e; omega⟩, hn⟩, fun e => h.no e.1, fun k hk => ⟨h.up k (Nat.le_trans hx.size hk), by omega⟩⟩
theorem Bld.wide {w : World} {g : Nat} {l : List UInt8} {S S' : Nat → Prop} (h : Bld w g S l) (hs : ∀ k, S k → S' k) (hn : ¬ S' g) : Bld w g S' l :=
  let ⟨p, v, hb, hp, ho, hk, h0⟩ := h.ex
  ⟨⟨p, v, hb, hp, ho, fun k e => hs k (hk k e), h0⟩, hn, fun k hk => hs k (h.up k hk)⟩
theorem copyCheck_c {w : World} {g : Nat} {p v : Value} (hb : Blk w g [p, v] 140) (hp : p = .pointer none ∨ p = ptr g) :
    Calls Tryz.prog 150 #[ptr g] w (Ret fun _ w' => Blk w' g [ptr g, v] 140 ∧ w.grownBy w' (some g)) := by
  refine vc_strings_Builder_copyCheck ?_
  unfold V_strings_Builder_copyCheck
  refine DoN_pu pu_nilptr ?_
  refine Do_pu (pu_field Tryz.underlying140 rfl (n := 0) (o := 0) (by kernel_rfl) rfl) ?_
  refine Do_load Tryz.underlying138 rfl (hb.cell 0) ?_
  have hsh : ∀ {z : World} {a b : Value}, Blk z g [a, b] 140 → z.shape? g = some (140, 2) := fun h => by
    unfold World.shape?
    rw [show _ = _ from h]
    rfl
  obtain ⟨j, hj⟩ : ∃ j, Tryz.prog.info? 140 = some j := Option.isSome_iff_exists.1 (by kernel_rfl)
  have hj2 : j.size ≠ 0 := by
    have : sizeAt Tryz.prog 140 = some 2 := by kernel_rfl
    simp [sizeAt, hj] at this
    omega
  rcases hp with rfl | rfl
  · refine Do_pu (pu_ptreq Tryz.underlying138) (CondT ?_)
    refine Do_of (Lib.run_to_unsafe (cells := 2) (e := 140) w ⟨g, 0, none⟩ Tryz.underlying138 Tryz.underlying245 hj hj2 (hsh hb) (show 0 < 2 by decide)) ?_
    refine DoN_of (noEscape_run _ _) ?_
    refine Do_of (Lib.run_from_unsafe (cells := 2) (e := 140) w ⟨g, 0, none⟩ Tryz.underlying245 Tryz.underlying138 hj (hsh hb) (by kernel_rfl)) ?_
    refine DoN_pu pu_nilptr ?_
    refine Do_pu (pu_field Tryz.underlying140 rfl (n := 0) (o := 0) (by kernel_rfl) rfl) ?_
    refine DoU_store (by kernel_rfl) hb (by simp) rfl fun w6 hb6 hg6 => ?_
    exact Ret.of ⟨hb6, hg6⟩
  · refine Do_pu (pu_ptreq Tryz.underlying138) (CondF ?_)
    refine DoN_pu pu_nilptr ?_
    refine Do_pu (pu_field Tryz.underlying140 rfl (n := 0) (o := 0) (by kernel_rfl) rfl) ?_
    refine Do_load Tryz.underlying138 rfl (hb.cell 0) ?_
    refine Do_of (v := .bool false) (w' := w) ?_ (CondF ?_)
    · have := Lib.run_neq_ptr_same (P := Tryz.prog) w ⟨g, 0, none⟩ Tryz.underlying138 hj
      simpa [eqGuard] using this
    · exact Ret.of ⟨hb, ⟨rfl, rfl, rfl, Nat.le_refl _, fun _ _ _ => rfl⟩⟩
theorem writeByte_c {w : World} {g : Nat} {S : Nat → Prop} {l : List UInt8} (h : Bld w g S l) (hl : l.length ≤ 70368744177664) (c : UInt8) :
    Calls Tryz.prog 117 #[ptr g, u8 c] w (Ret fun _ w' => Bld w' g S (l ++ [c]) ∧ Chg w w' (fun k => k = g ∨ S k)) := by
  obtain ⟨⟨p, v, hb, hp, ho, hk, hn⟩, hno, hup⟩ := h
  refine vc_strings_Builder_WriteByte ?_
  unfold V_strings_Builder_WriteByte
  refine CallS_r (copyCheck_c hb hp) fun _ w1 hh => ?_
  obtain ⟨hb1, hg1⟩ := hh
  have hc1 : Chg w w1 (fun k => k = g ∨ S k) := (Chg.refl w _).grown hg1 fun k e _ => by cases e; exact .inl rfl
  have ho1 : Own w1 5 1 v l.length (l.map u8) := ho.kept hg1 fun k e hv => by cases e; exact hno (hk _ hv)
  refine DoN_pu pu_nilptr ?_
  refine Do_pu (pu_field Tryz.underlying140 rfl (n := 0) (o := 1) (by kernel_rfl) rfl) ?_
  refine Do_load Tryz.underlying22 rfl (hb1.cell 1) ?_
  refine Do_build1L (vs := [u8 c]) Tryz.underlying22 row8 (one_cons rfl one_nil) rfl rfl (by decide) (by decide) fun w2 n2 => ?_
  refine DoN_append (s := 1) (m := 1) Tryz.underlying22 row8 rfl (by omega) (ho1.ext n2.ext) (Own.new (s := 1) (n := 1) n2 rfl (by decide)).sees rfl (one_cons rfl one_nil) (by omega) (by omega) fun v3 w3 ho3 hg3 hbl _ => ?_
  have hb3 : Blk w3 g [ptr g, v] 140 := (hb1.ext n2.ext).kept hg3 fun e => hno (hk _ e.symm)
  have hs1 := hg1.size
  have hs2 := n2.ext.size
  have hc3 : Chg w w3 (fun k => k = g ∨ S k) := (hc1.ext n2.ext).grown hg3 fun k e _ => .inr (hk k e)
  refine DoN_pu pu_nilptr ?_
  refine Do_pu (pu_field Tryz.underlying140 rfl (n := 0) (o := 1) (by kernel_rfl) rfl) ?_
  refine DoU_store (by kernel_rfl) hb3 (by simp) (Own.one ho3) fun w4 hb4 hg4 => ?_
  have hk3 : ∀ k, v3.ownBlock = some k → S k := fun k e => by
    rcases hbl with h | h
    · exact hk k (h ▸ e)
    · rw [h] at e; cases e; exact hup _ (by omega)
  refine Ret.of ⟨⟨⟨_, _, hb4, .inr rfl, ?_, hk3, fun e => by simp at e⟩, hno, fun k hk => hup k (by have := hc3.size; have := hg4.size; omega)⟩, hc3.grown hg4 fun k e _ => by cases e; exact .inl rfl⟩
  have := ho3.kept hg4 fun k e hv => by cases e; exact hno (hk3 _ hv)
  simpa using this
theorem bldString_c {w : World} {g : Nat} {S : Nat → Prop} {l : List UInt8} (h : Bld w g S l) (hl : l.length ≤ 70368744177664) :
    Calls Tryz.prog 80 #[ptr g] w (Ret fun v w' => v = str l ∧ Chg w w' (fun k => S k)) := by
  obtain ⟨⟨p, v, hb, hp, ho, hk, hn⟩, hno, hup⟩ := h
  refine vc_strings_Builder_String ?_
  unfold V_strings_Builder_String
  refine ⟨Ext, fun _ _ _ => True, Pre.ext, fun _ _ _ _ _ _ => trivial, ?_⟩
  have hbz : ∀ {z : World}, Ext w.drew z → Blk z g [p, v] 140 := fun hz => hb.ext ((Ext.drew _).trans hz)
  refine PureN_pu pu_nilptr ?_
  refine PureQ_pu (pu_field Tryz.underlying140 rfl (n := 0) (o := 1) (by kernel_rfl) rfl) ?_
  refine PureQ_load Tryz.underlying22 rfl (fun z hz => (hbz hz.1).cell 1) ?_
  rcases ho.2 with ⟨rfl, h0⟩ | ⟨r, cap, cur, rfl, _, hr, h1, h2, h3, h4⟩
  · obtain rfl : l = [] := List.eq_nil_of_length_eq_zero h0
    refine PureN_of (v := .pointer none) (fun z => run_value (Lib.run_unsafeSliceData_nil z _ _ _ _)) ?_
    refine PureN_pu pu_nilptr ?_
    refine PureQ_pu (pu_field Tryz.underlying140 rfl (n := 0) (o := 1) (by kernel_rfl) rfl) ?_
    refine PureQ_load Tryz.underlying22 rfl (fun z hz => (hbz hz.1).cell 1) ?_
    refine PureN_pu (pu_len Tryz.underlying22 (Sees.nil w)) ?_
    intro w1 hx1 _
    refine DoN_of (v := str []) (w' := w1) (run_value (Lib.run_unsafeString_none w1 _ _ _ _)) ?_
    exact Ret.of ⟨rfl, (Chg.refl w _).ext ((Ext.drew _).trans hx1)⟩
  · have hll : l.length ≠ 0 := fun e => by have := hn (List.eq_nil_of_length_eq_zero e); cases this
    have hcap : cap ≠ 0 := by omega
    refine PureN_of (v := ptr r) (fun z => run_value (Lib.run_unsafeSliceData_row z _ _ _ _ _ hcap)) ?_
    refine PureN_pu pu_nilptr ?_
    refine PureQ_pu (pu_field Tryz.underlying140 rfl (n := 0) (o := 1) (by kernel_rfl) rfl) ?_
    refine PureQ_load Tryz.underlying22 rfl (fun z hz => (hbz hz.1).cell 1) ?_
    refine PureN_pu (pu_len Tryz.underlying22 ho.sees) ?_
    intro w1 hx1 _
    have hx1' : Ext w w1 := (Ext.drew _).trans hx1
    have hr1 : w1.heap[r]? = _ := (hx1'.block r (Array.getElem?_eq_some_iff.1 hr).1).trans hr
    have hcells : ∀ j x, l[j]? = some x → w1.cell? ((⟨r, 0, none⟩ : Addr).add j) = some (.int .u8 x.toNat) := fun j x hx => by
      rcases (ho.ext hx1').sees with ⟨e, _⟩ | ⟨a, c, e, _, _, h6⟩
      · cases e
      · cases e; exact h6 j _ (by simp [hx]; rfl)
    have := Lib.run_unsafeString_row (P := Tryz.prog) w1 190 3 9 5 Tryz.underlying190 (by kernel_rfl) r cap (by unfold World.shape?; rw [hr1]; simp [h3]) l (by simpa using hll) h1 (by omega) hcells
    refine DoN_of (v := str l) (w' := w1.freeze ⟨r, 0, none⟩ l.length) (run_value this) ?_
    have hB := grown_freeze w1 r l.length
    exact Ret.of ⟨rfl, ((Chg.refl w _).ext hx1').grown hB fun k e _ => by cases e; exact hk r rfl⟩
/-- The signs of bits, written. -/
theorem sign_c {w : World} {g : Nat} {S : Nat → Prop} {l : List UInt8} {bv : Value} {bs : List UInt8} (h : Bld w g S l) (hl : l.length + bs.length ≤ 70368744177664) (hv : SeesB w bv bs) (hlo : ∀ k, bv.ownBlock = some k → k ≠ g ∧ ¬ S k) :
    Calls Tryz.prog 79 #[ptr g, bv] w (Ret fun _ w' => Bld w' g S (l ++ bs.map (48 + ·)) ∧ Chg w w' (fun k => k = g ∨ S k)) := by
  refine vc_shard_sign ?_
  unfold V_shard_sign
  refine DoN_pu (pu_len Tryz.underlying22 hv) ?_
  refine ⟨fun m xs w' => ∃ i, m = bs.length - i ∧ i ≤ bs.length ∧ xs = [i64 i] ∧ Bld w' g S (l ++ (bs.take i).map (48 + ·)) ∧ Chg w w' (fun k => k = g ∨ S k), ⟨_, 0, rfl, by omega, rfl, by simpa using h, Chg.refl _ _⟩, ?_⟩
  rintro m1 x8 j1 w2 ⟨i, rfl, hi, hx, hB, hc⟩
  obtain rfl : x8 = i64 i := by simpa using hx
  have hv2 : SeesB w2 bv bs := Sees.chg hv hc fun _ k hk he => he.elim (hlo k hk).1 (hlo k hk).2
  refine Do_pu pu_lss (CondV_if (fun hlt => ?_) fun hlt => ?_)
  · have hlt : i < bs.length := by omega
    refine Do_of (hv2.indexP (s := 1) Tryz.underlying22 (by kernel_rfl) hlt (hn := rfl) w2) ?_
    refine Do_of (hv2.loadP (u := u8 bs[i]) Tryz.underlying5 rfl (by simp [hlt])) ?_
    refine Do_of (v := u8 (48 + bs[i])) (w' := w2) ?_ ?_
    · show (binOp .add 5 (.int .u8 48) (.int .u8 (bs[i]).toNat)).run _ _ = _
      rw [run_add]
      have e1 : (48 : Int) + ((bs[i]).toNat : Int) = ((48 + (bs[i]).toNat : Nat) : Int) := by omega
      rw [e1, u8_wrap]
      congr 2
    refine CallS_r (writeByte_c hB (by simp; omega) _) fun _ w7 hh => ?_
    obtain ⟨hB7, hc7⟩ := hh
    refine Do_pu (pu_iadd (by omega) (by omega)) ⟨bs.length - (i + 1), by omega, i + 1, rfl, by omega, rfl, ?_, hc.trans hc7 fun _ _ e => e⟩
    have e : (bs.take (i + 1)).map (48 + ·) = (bs.take i).map (48 + ·) ++ [48 + bs[i]] := by rw [List.take_succ_eq_append_getElem hlt, List.map_append]; rfl
    rw [e, ← List.append_assoc]
    exact hB7
  · have hi2 : i = bs.length := by omega
    rw [hi2, List.take_length] at hB
    exact Ret.of ⟨hB, hc⟩
/-- A digest's bit. -/
def bitAt (ds : List UInt8) (i : Nat) : UInt8 := UInt8.ofNat ((ds.getD (i / 8) 0).toNat / 2 ^ (7 - i % 8) % 2)
theorem CallV_true {yv : Value} {xs : List Value} {w : World} {K : Value → World → Prop} {Kp : List PanicEntry → World → Prop} {Q : World → Prop} (h : CallV Tryz.prog yv xs w (fun v z => v = .bool true ∧ Q z) fun _ _ => False) (hk : ∀ z, Q z → K (.bool true) z) : CallV Tryz.prog yv xs w K Kp :=
  CallV_mono (fun v z hh => by obtain ⟨rfl, hq⟩ := hh; exact hk z hq) (fun _ _ h => h.elim) h
set_option maxRecDepth 20000 in
theorem bits1_c {w : World} {yv : Value} {f b d : Nat} {ds : List UInt8} (h64 : ds.length = 64) (I : Nat → World → Prop) (h0 : I 2 w)
    (hI : ∀ i z, I i z → Blk z f [i64 2] 3 ∧ Blk z b [ptr d] 185 ∧ Blk z d (ds.map u8) 104)
    (hy : ∀ i z, i < 512 → I i z → CallV Tryz.prog yv [u8 (bitAt ds i)] z (fun v z' => v = .bool true ∧ I (i + 1) z') fun _ _ => False) :
    Calls Tryz.prog 116 #[yv, ptr f, ptr b] w (Ret fun _ w' => I 512 w') := by
  refine vc_shard_bytes_bits_S1 ?_
  unfold V_shard_bytes_bits_S1
  refine Do_load Tryz.underlying3 rfl ((hI _ _ h0).1.cell 0) ?_
  refine ⟨fun m xs z => ∃ i : Nat, m = 512 - i ∧ i ≤ 512 ∧ xs = [i64 i] ∧ I i z, ⟨_, 2, rfl, by omega, rfl, h0⟩, ?_⟩
  rintro m1 x4 j1 w2 ⟨i, rfl, hi, hx, hI2⟩
  obtain rfl : x4 = i64 i := by simpa using hx
  refine Do_pu pu_lss (CondV_if (fun hlt => ?_) fun hlt => ?_)
  · have hlt : i < 512 := by omega
    obtain ⟨_, hb, hd⟩ := hI i w2 hI2
    refine Do_load Tryz.underlying185 rfl (hb.cell 0) ?_
    refine Do_pu (pu_iquo (by omega) (by omega) (by omega)) ?_
    refine DoN_pu pu_nilptr ?_
    refine Do_pu (pu_indexArr (n := 64) Tryz.underlying102 (s := 1) (by kernel_rfl) (by omega) (by omega)) ?_
    have hj : i / 8 < ds.length := by omega
    have hc : w2.cell? ⟨d, 0 + ((i : Int) / 8).toNat * 1, none⟩ = some (.int .u8 (ds.getD (i / 8) 0).toNat) := by
      have e : 0 + ((i : Int) / 8).toNat * 1 = i / 8 := by omega
      rw [e, hd.cell]
      simp [List.getD, hj, u8]
    refine Do_load Tryz.underlying5 rfl hc ?_
    refine Do_pu (pu_irem (by omega) (by omega)) ?_
    refine Do_pu (pu_isub (by omega) (by omega)) ?_
    have e : (7 : Int) - (i : Int) % 8 = ((7 - i % 8 : Nat) : Int) := by omega
    rw [e]
    refine Do_pu (pu_shr8 (by omega)) ?_
    have h256 : (ds.getD (i / 8) 0).toNat / 2 ^ (7 - i % 8) < 256 := Nat.lt_of_le_of_lt (Nat.div_le_self _ _) (u8_lt _)
    refine Do_pu (pu_and1 h256) ?_
    have e2 : Value.int .u8 (((ds.getD (i / 8) 0).toNat / 2 ^ (7 - i % 8) % 2 : Nat) : Int) = u8 (bitAt ds i) := by
      unfold bitAt u8
      congr 1
      rw [UInt8.toNat_ofNat']
      omega
    rw [e2]
    refine CallV_true (hy i w2 hlt hI2) fun z hz => ?_
    refine Do_pu pu_not (CondF ?_)
    exact Do_pu (pu_iadd (by omega) (by omega)) ⟨512 - (i + 1), by omega, i + 1, rfl, by omega, rfl, hz⟩
  · have : i = 512 := by omega
    exact Ret.of (this ▸ hI2)
/-- A key's way. -/
def wayS (l : List UInt8) : List UInt8 := (List.range 510).map fun i => 48 + bitAt (keyS l) (i + 2)
theorem wayS_len (l : List UInt8) : (wayS l).length = 510 := by simp [wayS]
theorem shardBits_c {w : World} (hk : Laid w) (l : List UInt8) (hl : l.length ≤ 35184372088000) : Calls Tryz.prog 42 #[str l] w (Ret fun v w' => v = str (wayS l) ∧ Ext w w') := by
  refine vc_shard_Bits ?_
  unfold V_shard_Bits
  refine Do_alloc (l := [.pointer none, .slice none 0 0]) (by kernel_rfl) fun w1 n1 => ?_
  refine CallS_r (shardof_c (hk.ext n1.ext) l hl) fun x6 w2 hh => ?_
  obtain ⟨rfl, hd, h64, hx2⟩ := hh
  refine DoN_pu pu_nilptr ?_
  refine Do_pu (pu_field Tryz.underlying104 rfl (n := 63) (o := 0) (by kernel_rfl) rfl) ?_
  refine CallS_r (Q := fun v w5 => ∃ f b, v = .func (.func 116) #[] #[ptr f, ptr b] ∧ Blk w5 f [i64 2] 3 ∧ Blk w5 b [ptr w1.heap.size] 185 ∧ Ext w2 w5 ∧ w2.heap.size ≤ f ∧ w2.heap.size ≤ b) ?_ fun x9 w5 hh => ?_
  · refine vc_shard_bytes_bits ?_
    unfold V_shard_bytes_bits
    refine Do_box (l := [ptr w1.heap.size]) rfl fun w3 n3 => ?_
    refine Do_box (l := [i64 2]) rfl fun w4 n4 => ?_
    refine Do_of (v := .func (.func 116) #[] #[ptr w3.heap.size, ptr w2.heap.size]) (w' := w4) rfl ?_
    exact Ret.of ⟨_, _, rfl, n4.blk, n3.blk.ext n4.ext, n3.ext.trans n4.ext, n3.ext.size, Nat.le_refl _⟩
  obtain ⟨f, b, rfl, hf, hb, hx5, hfw, hbw⟩ := hh
  refine ⟨by kernel_rfl, fun Rec hY => ?_⟩
  have hs1 := n1.ext.size
  have hs2 := hx2.size
  have hs5 := hx5.size
  have hb0 := begun_size w5 Rec
  have hbx := begun_ext w5 Rec
  have hw1 : w1.heap.size = w.heap.size + 1 := n1.size
  have hlt2 : w1.heap.size < w2.heap.size := hd.lt
  have hltf := hf.lt
  have hltb := hb.lt
  refine CallS_r (bits1_c (d := w1.heap.size) h64 (fun i z => 2 ≤ i ∧ Rnds w5 Rec z ∧ Bld z w.heap.size (fun k => w5.heap.size + 2 ≤ k) ((List.range (i - 2)).map fun j => 48 + bitAt (keyS l) (j + 2)) ∧ Blk z f [i64 2] 3 ∧ Blk z b [ptr w1.heap.size] 185 ∧
      Blk z w1.heap.size ((keyS l).map u8) 104 ∧ Chg (begunW w5 Rec) z (fun k => k = w.heap.size ∨ w5.heap.size + 2 ≤ k)) ?_ (fun i z h => ⟨h.2.2.2.1, h.2.2.2.2.1, h.2.2.2.2.2.1⟩) ?_) ?_
  · refine ⟨by omega, Rnds.start w5 Rec, ⟨⟨_, _, (n1.blk.ext (hx2.trans hx5)).ext hbx, .inl rfl, Own.nil _ _ _, fun k e => (by cases e), fun _ => rfl⟩, by omega, fun k hk => by omega⟩, hf.ext hbx, hb.ext hbx, (hd.ext hx5).ext hbx, Chg.refl _ _⟩
  · rintro i z hi ⟨h2, hR, hB, hfz, hbz, hdz, hcz⟩
    have hsz := hcz.size
    refine hY _ _ _ _ rfl hR.rec_ ⟨hR.rec_, ?_⟩
    have hB1 : Bld (z.putObj (w5.heap.size + 1) (Rec .busy none)) w.heap.size (fun k => w5.heap.size + 2 ≤ k) _ := hB.chg (put_chg _ _ _) fun k e => by subst e; omega
    refine Do_build1L (vs := [u8 (bitAt (keyS l) i)]) Tryz.underlying22 row8 (one_cons rfl one_nil) rfl rfl (by decide) (by decide) fun w7 n7 => ?_
    have hsz7 : (z.putObj (w5.heap.size + 1) (Rec .busy none)).heap.size = z.heap.size := by simp
    have hB7 := hB1.but n7.ext (Nat.le_refl _) (by rw [n7.size]; omega)
    refine CallS_r (sign_c (bs := [bitAt (keyS l) i]) hB7 (by simp; omega) (Own.new (s := 1) (n := 1) n7 rfl (by decide)).sees (fun k e => by obtain rfl : (z.putObj (w5.heap.size + 1) (Rec .busy none)).heap.size = k := Option.some.inj e; exact ⟨by omega, fun x => x.2 rfl⟩)) fun _ w8 hh => ?_
    obtain ⟨hB8, hc8⟩ := hh
    have hc8' : Chg (z.putObj (w5.heap.size + 1) (Rec .busy none)) w8 (fun k => k = w.heap.size ∨ w5.heap.size + 2 ≤ k) := ((Chg.refl _ _).ext n7.ext).trans hc8 fun k _ e => e.imp id fun x => x.1
    have hcA := round_chg hR hc8'
    have hrec := Chg.heap (World.putObj_heap_same (o := Rec .busy none) (Array.getElem?_eq_some_iff.1 hR.rec_).1) hc8' (by omega)
    refine ⟨hrec, rfl, by omega, ⟨World.putObj_heap_same (Array.getElem?_eq_some_iff.1 hrec).1, Chg.heap hR.mark hcA (by omega)⟩, ?_, hfz.chg hcA (by omega), hbz.chg hcA (by omega), hdz.chg hcA (by omega), hcz.trans hcA fun k _ e => e⟩
    have hB9 := (hB8.wide (S' := fun k => w5.heap.size + 2 ≤ k) (fun k e => e.1) (by omega)).chg (put_chg w8 (w5.heap.size + 1) (Rec .ready none)) fun k e => by subst e; omega
    have e : (List.range (i + 1 - 2)).map (fun j => 48 + bitAt (keyS l) (j + 2)) = (List.range (i - 2)).map (fun j => 48 + bitAt (keyS l) (j + 2)) ++ [bitAt (keyS l) i].map (48 + ·) := by
      have e1 : i + 1 - 2 = (i - 2) + 1 := by omega
      have e2 : i - 2 + 2 = i := by omega
      rw [e1, List.range_succ, List.map_append]
      simp [e2]
    rw [e]
    exact hB9
  · rintro _ z ⟨_, hR, hB, _, _, _, hcz⟩
    refine .on hR.rec_ ?_
    have hB2 : Bld (z.putObj (w5.heap.size + 1) (Rec .exhausted none)) w.heap.size (fun k => w5.heap.size + 2 ≤ k) (wayS l) := hB.chg (put_chg _ _ _) fun k e => by subst e; omega
    refine CallS_r (bldString_c hB2 (by rw [wayS_len]; omega)) fun v w12 hh => ?_
    obtain ⟨rfl, hc12⟩ := hh
    refine EndV_mark (Chg.heap (Chg.heap hR.mark (put_chg _ _ _) (by omega)) hc12 (by omega)) (EndV_ret (Ret.of ⟨rfl, ?_⟩))
    have hall : Chg (begunW w5 Rec) (w12.putObj w5.heap.size (.deferred none)) (fun k => w.heap.size ≤ k) :=
      ((((Chg.refl _ _).trans hcz fun k _ e => by omega).trans (put_chg _ _ _) fun k _ e => by omega).trans hc12 fun k _ e => by omega).trans (put_chg _ _ _) fun k _ e => by omega
    exact (n1.ext.trans (hx2.trans (hx5.trans hbx))).chg hall fun k e => e
end Go.Proofs.YtpdceilhgaladaaGreatDoor
