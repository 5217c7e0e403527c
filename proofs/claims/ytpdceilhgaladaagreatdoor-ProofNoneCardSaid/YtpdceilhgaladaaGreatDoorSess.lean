/- Ranging over a map; a copy of a tree without leaves; pulls of it. -/
import Derived.Test.YtpdceilhgaladaaGreatDoorVSession
import Derived.Test.YtpdceilhgaladaaGreatDoorNone
import Derived.Maps.Range
namespace Go.Vc
open Go.RowKit Go.ChangeMaps Go.MapKept
/-- Block r goes over the map at block m, whose entries are es; those in seen have come. -/
def IterB (w : World) (r m : Nat) (since last : Nat) (seen : Array Nat) : Prop := w.heap[r]? = some (.mapIter (some m) since seen last)
section
variable {P : Program} {w : World} {K : Value → World → Prop} {Kp : List PanicEntry → World → Prop} {t kt et : TypeId}
theorem IterB.lt {r m since last : Nat} {seen : Array Nat} (h : IterB w r m since last seen) : r < w.heap.size := (Array.getElem?_eq_some_iff.1 h).1
theorem IterB.ext {w' : World} {r m since last : Nat} {seen : Array Nat} (h : IterB w r m since last seen) (hx : Ext w w') : IterB w' r m since last seen := (hx.block r h.lt).trans h
theorem IterB.kept {w' : World} {row : Option Nat} {r m since last : Nat} {seen : Array Nat} (h : IterB w r m since last seen) (hg : w.grownBy w' row) (hne : some r ≠ row) : IterB w' r m since last seen := (hg.block r h.lt hne).trans h
theorem Do_range {m clock : Nat} {es : List MapEntry} (hu : P.underlying t = some (.map kt et)) (hb : MapB w m es clock)
    (hk : ∀ w', IterB w' w.heap.size m clock clock #[] → Ext w w' → K (ptr w.heap.size) w') : Do P (Instr.range t (.map (some m))) w K Kp := by
  have hb' : w.heap[m]? = some (.map es.toArray clock) := hb
  exact Do_of (run_range_map w t kt et m es.toArray clock hu hb') (hk _ (heap_alloc_new w _) ((Below.refl _ w).alloc (Nat.le_refl _) _))
theorem Do_next {r m since last clock : Nat} {seen : Array Nat} {es : List MapEntry} {ty : TypeId} (hr : IterB w r m since last seen) (hb : MapB w m es clock) (hold : ∀ x ∈ es, x.born < since) (hsc : since ≤ last) (hne : r ≠ m)
    (h0 : (leftOf es.toArray seen).size = 0 → K (.tuple #[.bool false]) w)
    (h1 : ∀ e w', e ∈ es → seen.contains e.born = false → (leftOf es.toArray (seen.push e.born)).size < (leftOf es.toArray seen).size → IterB w' r m since clock (seen.push e.born) → MapB w' m es clock → w.grownBy w' (some r) → K (.tuple #[.bool true, e.key, e.val]) w') :
    Do P (Instr.next (ptr r) false ty) w K Kp := by
  rcases run_next_at (P := P) w ty r m since last seen es.toArray clock hr hb (by simpa using hold) hsc with ⟨hz, hrun⟩ | ⟨e, he, w1, hal, hrun⟩
  · exact Do_of hrun (h0 hz)
  · obtain ⟨hem, hes⟩ := mem_left he
    have hr1 : w1.heap[r]? = some (.mapIter (some m) since seen last) := by rcases hal with rfl | rfl <;> exact hr
    have hb1 : w1.heap[m]? = some (.map es.toArray clock) := by rcases hal with rfl | rfl <;> exact hb
    have hset := heap_set (o' := .mapIter (some m) since (seen.push e.born) clock) hr1
    refine Do_of hrun (h1 e _ (by simpa using hem) (by simpa using hes) (left_shrinks es.toArray seen e he) hset.1 ((hset.2 m (fun e1 => hne e1.symm)).trans hb1) ?_)
    rcases hal with rfl | rfl <;> exact ⟨rfl, rfl, rfl, by simp [setBlock], fun i _ hi => hset.2 i (fun e1 => hi (by rw [e1]))⟩
theorem Do_entry {r m since clock : Nat} {seen : Array Nat} {es : List MapEntry} {e : MapEntry} (hr : IterB w r m since clock (seen.push e.born)) (hb : MapB w m es clock) (he : e ∈ es) (hst : MapKept.Stamped es.toArray clock)
    (hk : K (.tuple #[e.key, e.val]) w) : Do P (Instr.entry (ptr r)) w K Kp :=
  Do_of (run_entry_at w r m since seen es.toArray clock e hr hb (by simpa using he) hst.2.1) hk
end
end Go.Vc
namespace Go.Proofs.YtpdceilhgaladaaGreatDoor
open Go.Vc Go.Vc.Sha Go.RowKit
theorem leaves0_c {w : World} {t m : Nat} {sh : Int} (h : Empty w t m sh) : Calls Tryz.prog 25 #[ptr t] w (Ret fun v w' => v = nilS_ ∧ w' = w) := by
  refine vc_merkle_Tree_Leaves ?_
  unfold V_merkle_Tree_Leaves
  refine CallS_v (there_c h.blk) ?_
  refine Do_pu pu_not (CondF ?_)
  refine DoN_pu pu_nilptr ?_
  refine Do_pu (pu_field Tryz.underlying36 rfl (n := 1) (o := 0) (by kernel_rfl) rfl) ?_
  refine Do_pu (pu_field Tryz.underlying33 rfl (n := 0) (o := 0) (by kernel_rfl) rfl) ?_
  refine Do_load Tryz.underlying30 rfl ((h.blk.cell _).trans rfl) ?_
  refine DoN_pu (pu_len Tryz.underlying30 (Sees.nil w)) ?_
  refine ⟨fun m xs w' => xs = [nilS_, i64 0] ∧ w' = w, ⟨0, rfl, rfl⟩, ?_⟩
  rintro m1 x3 x15 j1 w7 ⟨hI, rfl⟩
  obtain ⟨rfl, rfl⟩ : x3 = nilS_ ∧ x15 = i64 0 := by simpa using hI
  exact Do_pu pu_lss (CondV_b (fun hc => by simp at hc) fun hc => Ret.of ⟨rfl, rfl⟩)
theorem cloneT0_c (w : World) : Calls Tryz.prog 61 #[nilS_] w (Ret fun v w' => v = nilS_ ∧ w' = w) := by
  refine vc_slices_Clone_string_string ?_
  unfold V_slices_Clone_string_string
  exact Do_pu (pu_sleq Tryz.underlying31) (CondT (Ret.of ⟨rfl, rfl⟩))
theorem copy0_c {w : World} {t m : Nat} {sh : Int} (h : Empty w t m sh) (hk : Laid w) (hsh : 0 ≤ sh ∧ sh < 4) :
    Calls Tryz.prog 26 #[ptr t] w (Ret fun v w' => Ext w w' ∧ ∃ t' m', v = ptr t' ∧ Empty w' t' m' sh ∧ w.heap.size ≤ t' ∧ w.heap.size ≤ m') := by
  refine vc_merkle_Tree_Copy ?_
  unfold V_merkle_Tree_Copy
  refine CallS_v (there_c h.blk) ?_
  refine Do_pu pu_not (CondF ?_)
  refine DoN_pu pu_nilptr ?_
  refine Do_pu (pu_field Tryz.underlying36 rfl (n := 0) (o := 2) (by kernel_rfl) rfl) ?_
  refine Do_load Tryz.underlying3 rfl ((h.blk.cell _).trans rfl) ?_
  refine CallS_r (merkleNew_c sh hk) fun x13 w6 hh => ?_
  obtain ⟨hx6, hh⟩ := hh
  rw [if_pos hsh] at hh
  obtain ⟨rfl, he6, hm6⟩ := hh
  refine ⟨Ext, fun i v _ => (i = 2 → v = nilS_) ∧ (i = 8 → v = nilS_), Pre.ext, fun i v z z' _ h => h, ?_⟩
  refine ⟨fun w7 hx7 _ => CallS_r (leaves0_c (h.ext (hx6.trans ((Ext.drew _).trans hx7)))) fun v z hh => ⟨by rw [hh.2]; exact Ext.refl _, And.intro (fun _ => hh.1) (fun e => by cases e)⟩, fun x16_1 => ?_⟩
  refine PureN_pu pu_nilptr ?_
  refine PureQ_pu (pu_field Tryz.underlying36 rfl (n := 1) (o := 0) (by kernel_rfl) rfl) ?_
  refine PureQ_pu (pu_field Tryz.underlying33 rfl (n := 0) (o := 1) (by kernel_rfl) rfl) ?_
  refine PureQ_load Tryz.underlying31 rfl (fun z hz => (h.blk.at0 hx6 _ hz.1).trans rfl) ?_
  refine ⟨fun w9 hx9 _ => CallS_r (cloneT0_c w9) fun v z hh => ⟨by rw [hh.2]; exact Ext.refl _, And.intro (fun e => by cases e) (fun _ => hh.1)⟩, fun x22_1 => ?_⟩
  refine PureQ_at (v := .agg #[nilS_, nilS_]) (fun z hz => ?_) ?_
  · rw [hz.2.1.2 rfl, hz.2.2.1.1 rfl]
    exact run_buildS (cells := [nilS_, nilS_]) Tryz.underlying33 (zero := [nilS_, nilS_]) (by kernel_rfl) (by kernel_rfl) (by kernel_rfl) z
  intro w11 hx11 _
  obtain ⟨es, clock, hm, hst, hes⟩ := h.map
  have hx11' : Ext w w11 := hx6.trans ((Ext.drew _).trans hx11)
  have he11 := he6.ext ((Ext.drew _).trans hx11)
  have hlt6 := he6.lt
  have hm1 : MapB w11 w.heap.size [] 0 := hm6.ext ((Ext.drew _).trans hx11)
  obtain ⟨t', ht'⟩ : ∃ t', t' = w.heap.size + 1 := ⟨_, rfl⟩
  obtain ⟨m', hm'⟩ : ∃ m', m' = w.heap.size := ⟨_, rfl⟩
  rw [← ht', ← hm'] at he11
  rw [← hm'] at hm1
  rw [← ht']
  refine DoN_pu pu_nilptr ?_
  refine Do_pu (pu_field Tryz.underlying36 rfl (n := 1) (o := 0) (by kernel_rfl) rfl) ?_
  refine DoU_storeAgg (m := [nilS_, nilS_]) (by kernel_rfl) he11.blk (by simp) (one_cons rfl (one_cons rfl one_nil)) fun w14 hb14 hg14 => ?_
  have hb14' : Blk w14 t' [nilS_, nilS_, i64 sh, .map (some m')] 36 := hb14
  have hx14 : Ext w w14 := hx11'.grown hg14 (fun k e => by cases e; omega)
  have hm14 : MapB w14 m' [] 0 := hm1.kept hg14 (fun e => he11.ne (by cases e; rfl))
  refine DoN_pu pu_nilptr ?_
  refine Do_pu (pu_field Tryz.underlying36 rfl (n := 0) (o := 3) (by kernel_rfl) rfl) ?_
  refine Do_load Tryz.underlying34 rfl (((h.blk.ext hx14).cell _).trans rfl) ?_
  refine Do_range Tryz.underlying34 (hm.ext hx14) fun w18 hi18 hx18 => ?_
  have htm14 : t' < w14.heap.size ∧ m' < w14.heap.size := ⟨hb14'.lt, hm14.lt⟩
  obtain ⟨r, hr⟩ : ∃ r, r = w14.heap.size := ⟨_, rfl⟩
  rw [← hr] at hi18 ⊢
  have hsz14 := hx14.size
  have hlt := h.lt
  refine ⟨fun n xs w' => xs = [] ∧ ∃ seen last es' clock', n = (leftOf es.toArray seen).size ∧ IterB w' r m clock last seen ∧ clock ≤ last ∧ Ext w w' ∧ Blk w' t' [nilS_, nilS_, i64 sh, .map (some m')] 36 ∧ MapB w' m' es' clock' ∧ MapKept.Stamped es'.toArray clock' ∧
    (∀ e ∈ es', (∃ l, e.key = str l) ∧ Sees w' e.val 64 (noneS.map u8) ∧ ∀ g, e.val.ownBlock = some g → g < w.heap.size) ∧ (∀ e' ∈ es', ∃ x ∈ es, seen.contains x.born = true ∧ x.key = e'.key),
    ⟨_, rfl, #[], clock, [], 0, rfl, hi18, Nat.le_refl _, hx14.trans hx18, hb14'.ext hx18, hm14.ext hx18, MapKept.stamped_empty 0, (fun e he => by cases he), (fun e he => by cases he)⟩, ?_⟩
  rintro n1 j1 w19 ⟨_, seen, last, es', clock', rfl, hI, hsc, hx19, hb19, hm19, hst19, hes19, hsub⟩
  have hval : ∀ e ∈ es, ∀ g, e.val.ownBlock = some g → g < w.heap.size := fun e he g hg => (hes e he).2.1.lt (fun e0 => by have := congrArg List.length e0; rw [List.length_map, noneS_len] at this; cases this) hg
  refine Do_next hI (hm.ext hx19) (fun x hx => hst.1 x (by simpa using hx)) hsc (by omega) (fun hz => ?_) (fun e w20 hee hes0 hsh' hI20 hm20 hg20 => ?_)
  · refine Do_pu (pu_ext rfl) (CondF ?_)
    exact Ret.of ⟨hx19, t', m', rfl, ⟨he11.lo, hb19, he11.ne, es', clock', hm19, hst19, fun e he => ⟨(hes19 e he).1, (hes19 e he).2.1, fun g hg => by have := (hes19 e he).2.2 g hg; omega⟩⟩, by omega, by omega⟩
  · refine Do_pu (pu_ext rfl) (CondT ?_)
    refine Do_entry hI20 hm20 hee hst ?_
    refine Do_pu (pu_ext rfl) ?_
    refine Do_pu (pu_ext rfl) ?_
    refine DoN_pu pu_nilptr ?_
    refine Do_pu (pu_field Tryz.underlying36 rfl (n := 0) (o := 3) (by kernel_rfl) rfl) ?_
    have hb20 := hb19.kept hg20 (by intro e; cases e; omega)
    have hm20' := hm19.kept hg20 (by intro e; cases e; omega)
    refine Do_load Tryz.underlying34 rfl ((hb20.cell _).trans rfl) ?_
    obtain ⟨⟨l, hl⟩, hsv, _⟩ := hes e hee
    rcases findNow_str (l := l) (es := es') (fun e' h' => (hes19 e' h').1) with ⟨hf, hnk⟩ | ⟨j, e', hf, hj, hkey⟩
    · refine DoU_mapUpdate Tryz.underlying34 Tryz.underlying9 (by rw [hl]; trivial) hm20' (by rw [hl]; exact hf) fun w28 hm28 hg28 => ?_
      have hx20 : Ext w w20 := hx19.grown hg20 (fun k e => by cases e; omega)
      have hx28 : Ext w w28 := hx20.grown hg28 (fun k e => by cases e; omega)
      refine ⟨_, hsh', rfl, seen.push e.born, clock, _, _, rfl, hI20.kept hg28 (by intro e; cases e; omega), Nat.le_refl _, hx28, hb20.kept hg28 (by intro e; cases e; omega), hm28, by simpa using MapKept.stamped_push hst19 (key := e.key) (val := e.val) (by rw [hl]; simpa using hnk), fun x hx => ?_, fun x hx => ?_⟩
      · rcases List.mem_append.1 hx with hx | hx
        · have := hes19 x hx
          refine ⟨this.1, ?_, this.2.2⟩
          exact (this.2.1.kept hg20 (fun g e hg => by cases e; have := this.2.2 _ hg; omega)).kept hg28 (fun g e hg => by cases e; have := this.2.2 _ hg; omega)
        · rw [List.mem_singleton.1 hx]
          exact ⟨⟨l, hl⟩, hsv.ext hx28, hval e hee⟩
      · rcases List.mem_append.1 hx with hx | hx
        · obtain ⟨y, hy, hys, hyk⟩ := hsub x hx
          exact ⟨y, hy, by rw [contains_push, hys]; rfl, hyk⟩
        · rw [List.mem_singleton.1 hx]
          exact ⟨e, hee, by rw [contains_push, beq_self_eq_true, Bool.or_true], rfl⟩
    · exfalso
      obtain ⟨y, hy, hys, hyk⟩ := hsub e' (List.mem_of_getElem? hj)
      have hpw := ((MapKept.stamped_iff es.toArray clock).1 hst).2.2
      have : y = e := entry_eq_of_key (by simpa using hpw) hy hee (by rw [hyk, hkey, hl])
      subst this
      rw [hys] at hes0; cases hes0
end Go.Proofs.YtpdceilhgaladaaGreatDoor
