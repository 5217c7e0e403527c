/- Proofs without digests: what holds; all texts; the proof that a tree without leaves makes. -/
import Derived.Test.YtpdceilhgaladaaGreatDoorProofC
import Derived.Test.YtpdceilhgaladaaGreatDoorNone
namespace Go.Proofs.YtpdceilhgaladaaGreatDoor
open Go.Vc Go.Vc.Sha Go.RowKit
theorem holds0_c {w : World} (hk : Laid w) {n : Nat} (hn : n < 4) {key top : List UInt8} {tv : Value} (hl : key.length ≤ 35184372088000) (ht : SeesB w tv top) :
    Calls Tryz.prog 39 #[i64 n, tv, str key, zeroP, nilS_] w (Ret fun r w' => Ext w w' ∧ r = i64 (if leads n key top = true then 0 else 23)) := by
  refine vc_proof_Holds ?_
  unfold V_proof_Holds
  refine Do_box (l := [nilS_, nilS_]) rfl fun w1 n1 => ?_
  refine Do_loadAgg (l := [nilS_, nilS_]) Tryz.underlying58 rfl (by kernel_rfl) n1.blk.all ?_
  refine CallS_r (check0_c (hk.ext n1.ext) hn hl (ht.ext n1.ext)) fun x18 w3 hh => ?_
  obtain ⟨hx3, rfl⟩ := hh
  refine Do_pu (pu_ext rfl) ?_
  refine Do_pu (pu_ext rfl) ?_
  have hX := n1.ext.trans hx3
  cases hL : leads n key top with
  | false => exact Do_pu pu_neq (CondT (Ret.of ⟨hX, rfl⟩))
  | true =>
    refine Do_pu pu_neq (CondF ?_)
    refine DoN_pu (pu_len Tryz.underlying47 (Sees.nil w3)) ?_
    refine Do_pu pu_eql (BoolT ?_)
    refine Do_pu (pu_sleq Tryz.underlying22) (CondT ?_)
    exact Ret.of ⟨hX, rfl⟩
/-- One round of slices.AppendSeq. -/
def appB (ax : Nat) : Rnd := fun l1 Rec1 y1 w2 R1 =>
  w2.heap[l1]? = some (Rec1 .ready none) ∧
  Do Tryz.prog (Instr.loadAt 55 (ptr ax)) (w2.putObj l1 (Rec1 .busy none)) (fun x8 w3 =>
  Do Tryz.prog (Instr.buildSlice 55 1 #[(0, (y1 0))]) w3 (fun x10 w4 =>
  DoN Tryz.prog (builtin .append #[55, 55] 55 #[false, false] #[x8, x10]) w4 (fun x11 w5 =>
  DoU Tryz.prog (Instr.storeAt 55 (ptr ax) x11) w5 (fun w6 =>
  R1 .normal w6) (fun _ _ => False)) (fun _ _ => False)) (fun _ _ => False)) (fun _ _ => False)
theorem app_round {w1 z : World} {ax : Nat} {Rec : LoopState → Option Code → Obj} (hY : Yields1 Tryz.prog 1 (w1.heap.size + 1) Rec (appB ax)) (hR : Rnds w1 Rec z) {v u : Value} {k : Nat} {items : List Value} (hk6 : k < 100)
    (hax : Blk z ax [v] 55) (ho : Own z 22 1 v k items) (hu : u.oneCell' = true) (ha1 : ax ≠ w1.heap.size + 1) (ha2 : ax ≠ w1.heap.size) (hv : ∀ j, v.ownBlock = some j → j ≠ ax ∧ j ≠ w1.heap.size + 1 ∧ j ≠ w1.heap.size)
    {K : Value → World → Prop} {Kp : List PanicEntry → World → Prop}
    (hk : ∀ z1 v1, Rnds w1 Rec z1 → Blk z1 ax [v1] 55 → Own z1 22 1 v1 (k + 1) (items ++ [u]) → Chg z z1 (fun j => j = ax ∨ v.ownBlock = some j) → (v1.ownBlock = v.ownBlock ∨ ∃ j, v1.ownBlock = some j ∧ z.heap.size ≤ j) → K (.bool true) z1) :
    CallV Tryz.prog (.func (.yield (w1.heap.size + 1)) #[] #[]) [u] z K Kp := by
  have hlt := hax.lt
  refine hY _ _ _ _ rfl hR.rec_ ⟨hR.rec_, ?_⟩
  have hax1 := hax.chg (put_chg z (w1.heap.size + 1) (Rec .busy none)) ha1
  have ho1 := ho.chg (put_chg z (w1.heap.size + 1) (Rec .busy none)) fun g hg e => (hv g hg).2.1 e
  have hs1 : (z.putObj (w1.heap.size + 1) (Rec .busy none)).heap.size = z.heap.size := by simp
  refine Do_load Tryz.underlying55 rfl (hax1.cell 0) ?_
  refine Do_build1L (vs := [u]) Tryz.underlying55 rowBytes (one_cons hu one_nil) rfl rfl (by decide) (by decide) fun w4 n4 => ?_
  refine DoN_append (s := 1) (m := 1) Tryz.underlying55 rowBytes rfl (by omega) (ho1.ext n4.ext) (Own.new (s := 1) (n := 1) n4 rfl (by decide)).sees rfl (one_cons hu one_nil) (by omega) (by omega) fun v5 w5 ho5 hg5 hbl _ => ?_
  have hax5 : Blk w5 ax [v] 55 := (hax1.ext n4.ext).kept hg5 fun e => (hv ax e.symm).1 rfl
  refine DoU_store (by kernel_rfl) hax5 (by simp) (Own.one ho5) fun w6 hb6 hg6 => ?_
  have hs4 := n4.size
  have hbl5 : ∀ j, v5.ownBlock = some j → j ≠ ax ∧ j ≠ w1.heap.size + 1 ∧ j ≠ w1.heap.size := fun j e => by
    rcases hbl with h | h
    · exact hv j (h ▸ e)
    · rw [h] at e; cases e
      have := (Array.getElem?_eq_some_iff.1 hR.rec_).1
      omega
  have hc6 : Chg (z.putObj (w1.heap.size + 1) (Rec .busy none)) w6 (fun j => j = ax ∨ v.ownBlock = some j) :=
    (((Chg.refl _ _).ext n4.ext).grown hg5 fun j e _ => .inr e).grown hg6 fun j e _ => by cases e; exact .inl rfl
  have hno1 : ¬ ((w1.heap.size + 1) = ax ∨ v.ownBlock = some (w1.heap.size + 1)) := fun h => h.elim (fun e => ha1 e.symm) fun e => (hv _ e).2.1 rfl
  have hno2 : ¬ ((w1.heap.size) = ax ∨ v.ownBlock = some (w1.heap.size)) := fun h => h.elim (fun e => ha2 e.symm) fun e => (hv _ e).2.2 rfl
  have hcc := round_chg hR hc6
  have hrec := Chg.heap (World.putObj_heap_same (o := Rec .busy none) (Array.getElem?_eq_some_iff.1 hR.rec_).1) hc6 hno1
  refine round_on hR hc6 hno1 (hk _ v5 ⟨World.putObj_heap_same (Array.getElem?_eq_some_iff.1 hrec).1, Chg.heap hR.mark hcc hno2⟩ (hb6.chg (put_chg _ _ _) ha1) ?_ hcc ?_)
  · exact (ho5.kept hg6 fun g e hg => by cases e; exact (hbl5 _ hg).1 rfl).chg (put_chg _ _ _) fun g hg e => (hbl5 g hg).2.1 e
  · rcases hbl with h | h
    · exact .inl h
    · exact .inr ⟨_, h, by omega⟩
set_option maxRecDepth 20000 in
theorem collect0_c {w : World} (hk : Laid w) {n : Nat} (hn : n < 4) {key b : List UInt8} {bv : Value} {c1 c2 g : Nat} (hc2 : Blk w c2 [bv] 22) (hbv : SeesB w bv b) (hb : b.length ≤ 1000) (hc1 : Blk w c1 [ptr g] 128) (hg : WalkAt w g n key) :
    Calls Tryz.prog 75 #[.func (.func 76) #[] #[ptr c2, ptr c1]] w (Ret fun v w' => Ext w w' ∧ ∃ l, Sees w' v 3 l) := by
  refine vc_slices_Collect_byte ?_
  unfold V_slices_Collect_byte
  refine CallS_r (Q := fun v w' => Ext w w' ∧ ∃ l, Sees w' v 3 l) ?_ fun v w' hh => Ret.of hh
  refine vc_slices_AppendSeq_byte_byte ?_
  unfold V_slices_AppendSeq_byte_byte
  refine Do_box (l := [nilS_]) rfl fun w1 n1 => ?_
  refine ⟨by kernel_rfl, fun Rec hY => ?_⟩
  have hY : Yields1 Tryz.prog 1 (w1.heap.size + 1) Rec (appB w.heap.size) := hY
  have hs1 := n1.size
  have hbx := begun_ext w1 Rec
  have hbs := begun_size w1 Rec
  have hX0 : Ext w (begunW w1 Rec) := n1.ext.trans hbx
  have hwl0 : 2 < w.heap.size := World.block_lt_of_cell? w _ (hk.k 0 (by omega))
  have hwl1 : 0 < w.heap.size := World.block_lt_of_cell? w _ (hk.v0 0 (by omega))
  have hc1l := hc1.lt
  have hc2l := hc2.lt
  have hgl := hg.lt
  refine ⟨vc_proof_Texts_S1 ?_⟩
  unfold V_proof_Texts_S1
  refine Do_build1L (vs := [u8 5]) Tryz.underlying22 row8 (one_cons rfl one_nil) rfl rfl (by decide) (by decide) fun w3 n3 => ?_
  refine Do_load Tryz.underlying22 rfl ((hc2.ext (hX0.trans n3.ext)).cell 0) ?_
  refine Do_build1L (vs := [.slice (some ⟨(begunW w1 Rec).heap.size, 0, none⟩) 1 1, bv]) Tryz.underlying55 rowBytes (one_cons rfl (one_cons (Sees.one hbv) one_nil)) rfl rfl (by decide) (by decide) fun w4 n4 => ?_
  have h5 : SeesB w3 (.slice (some ⟨(begunW w1 Rec).heap.size, 0, none⟩) 1 1) [5] := (Own.new (s := 1) n3 rfl (by decide)).sees
  refine CallS_r (join_c (parts := [[5], b]) (Own.new (s := 1) n4 rfl (by decide)).sees (.cons (h5.ext n4.ext) (.cons (hbv.ext (hX0.trans (n3.ext.trans n4.ext))) (.nil _))) (by simp; omega)) fun x8 w5 hh => ?_
  obtain ⟨ho5, hx5, hl5⟩ := hh
  have hX5 : Ext (begunW w1 Rec) w5 := n3.ext.trans (n4.ext.trans hx5)
  have hXw5 := hX0.trans hX5
  refine app_round (k := 0) (items := []) hY ((Rnds.start w1 Rec).ext hX5) (by omega) (n1.blk.ext (hbx.trans hX5)) (Own.nil _ _ _) (Own.one ho5) (by omega) (by omega) (fun j e => by cases e) fun z1 v1 hR1 hb1 ho1 hch1 hbl1 => ?_
  have hXs5 := hX5.size
  have hz1s := hch1.size
  have hv1 : ∀ j, v1.ownBlock = some j → w5.heap.size ≤ j ∧ j < z1.heap.size := fun j e => by
    refine ⟨?_, ho1.lt e⟩
    rcases hbl1 with h | ⟨j', h, hj⟩
    · rw [h] at e; cases e
    · rw [h] at e; cases e; exact hj
  have hz1 : Ext w z1 := hXw5.chg hch1 fun k e => e.elim (fun e => by omega) fun e => by cases e
  refine CondT ?_
  refine Do_load Tryz.underlying128 rfl ((hc1.ext hz1).cell 0) ?_
  refine CallS_r (up_c g z1) fun x11 w7 hh => ?_
  obtain ⟨rfl, hb7, hx7⟩ := hh
  have hb7l := hb7.lt
  have hx7s := hx7.size
  refine CallV_r (by kernel_rfl) (up0_c (S := fun k => k = w.heap.size ∨ v1.ownBlock = some k) (Fin := fun z0 z3 => Rnds w1 Rec z3 ∧ ∃ v3 items, Blk z3 w.heap.size [v3] 55 ∧ Own z3 22 1 v3 3 items ∧ ∀ k, v3.ownBlock = some k → v1.ownBlock = some k ∨ z0.heap.size ≤ k)
    (hk.ext (hz1.trans hx7)) hb7 (hg.ext (hz1.trans hx7)) hn rfl ?_ ?_) fun _ w' hh => ?_
  · have no : ∀ k, k < w.heap.size → ¬ (k = w.heap.size ∨ v1.ownBlock = some k) := fun k hk' h => h.elim (fun e => by omega) fun e => by have := hv1 k e; omega
    exact ⟨fun h => h.elim (fun e => by omega) fun e => by have := hv1 _ e; omega, no g hgl, no _ hwl0, no _ hwl1, fun k h => h.elim (fun e => by omega) fun e => by have := hv1 k e; omega⟩
  · intro z0 v0 hx0 hs0 hl0
    have hx0s := hx0.size
    have hX10 := hx7.trans hx0
    refine app_round (k := 1) hY (hR1.ext hX10) (by omega) (hb1.ext hX10) (ho1.ext hX10) (Sees.one hs0) (by omega) (by omega) (fun j e => by have := hv1 j e; omega) fun z2 v2 hR2 hb2 ho2 hch2 hbl2 => ?_
    have hv2 : ∀ j, v2.ownBlock = some j → (v1.ownBlock = some j ∨ z0.heap.size ≤ j) := fun j e => by
      rcases hbl2 with h | ⟨j', h, hj⟩
      · exact .inl (h ▸ e)
      · rw [h] at e; cases e; exact .inr hj
    have hv2' : ∀ j, v2.ownBlock = some j → w5.heap.size ≤ j := fun j e => (hv2 j e).elim (fun e => (hv1 j e).1) fun e => by omega
    refine ⟨rfl, (Chg.refl _ _).trans hch2 fun k _ e => .inl e, ?_⟩
    intro z4 u hx4 hs4 hl4
    have hz2s := hch2.size
    refine app_round (k := 2) hY (hR2.ext hx4) (by omega) (hb2.ext hx4) (ho2.ext hx4) (Sees.one hs4) (by omega) (by omega) (fun j e => by have := hv2' j e; omega) fun z5 v3 hR3 hb3 ho3 hch3 hbl3 => ?_
    refine ⟨(Chg.refl _ _).trans hch3 fun k _ e => e.elim (fun e => .inl (.inl e)) fun e => (hv2 k e).imp .inr id, hR3, v3, _, hb3, ho3, fun k e => ?_⟩
    rcases hbl3 with h | ⟨j', h, hj⟩
    · exact hv2 k (h ▸ e)
    · rw [h] at e; cases e
      have := hx4.size
      exact .inr (by omega)
  · obtain ⟨z0, z3, m, o, hx0, hcw, ⟨hR3, v3, items, hb3, ho3, hv3⟩, hm1, hm2, hm3, rfl⟩ := hh
    refine .on (Chg.heap hR3.rec_ (put_chg _ _ _) (by omega)) ?_
    have hv3' : ∀ j, v3.ownBlock = some j → j ≠ m ∧ j ≠ w1.heap.size + 1 := fun j e => by
      have := hx0.size
      rcases hv3 j e with h | h
      · have := hv1 j h; omega
      · omega
    have hbA := (hb3.chg (put_chg z3 m o) (by omega)).chg (put_chg _ (w1.heap.size + 1) (Rec .exhausted none)) (by omega)
    have hoA := (ho3.chg (put_chg z3 m o) fun j e => (hv3' j e).1).chg (put_chg _ (w1.heap.size + 1) (Rec .exhausted none)) fun j e => (hv3' j e).2
    have hmA := Chg.heap (Chg.heap hR3.mark (put_chg z3 m o) (by omega)) (put_chg _ (w1.heap.size + 1) (Rec .exhausted none)) (by omega)
    have hXA : Ext w ((z3.putObj m o).putObj (w1.heap.size + 1) (Rec .exhausted none)) :=
      (((hz1.trans hx7).chg hcw fun k e => e.elim (fun e => by omega) fun e => by have := hv1 k e; omega).chg (put_chg _ _ _) fun k e => by omega).chg (put_chg _ _ _) fun k e => by omega
    generalize ((z3.putObj m o).putObj (w1.heap.size + 1) (Rec .exhausted none)) = W at hbA hoA hmA hXA
    refine Do_load Tryz.underlying55 rfl (hbA.cell 0) ?_
    refine EndV_mark hmA (EndV_ret (Ret.of ⟨hXA.chg (put_chg _ _ _) fun k e => by omega, items, (hoA.chg (put_chg _ _ _) fun j e => ?_).sees⟩))
    have := hx0.size
    rcases hv3 j e with h | h
    · have := hv1 j h; omega
    · omega
end Go.Proofs.YtpdceilhgaladaaGreatDoor
