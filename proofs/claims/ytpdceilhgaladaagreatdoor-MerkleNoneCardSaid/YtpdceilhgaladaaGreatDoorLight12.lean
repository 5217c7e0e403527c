/- light of the statements' package 12: if it says so, leaves are few and small. -/
import Derived.Test.YtpdceilhgaladaaGreatDoorData
namespace Go.Proofs.YtpdceilhgaladaaGreatDoor.Law12
open Go.Vc Go.RowKit Go.Proofs.YtpdceilhgaladaaGreatDoor
def RecSmall (r : Rec) : Prop := r.key.length ≤ 200 ∧ r.value.length ≤ 2000 ∧ r.ctx.length ≤ 50 ∧ r.sig.length ≤ 200
def LfSmall (l : Lf) : Prop := l.set.length ≤ 60 ∧ l.key.length < 1220 ∧ ∀ r ∈ l.set, RecSmall r
/-- What is known of a leaf that was looked at. -/
def Seen (n : Nat) (l : Lf) : Prop := min l.set.length 100 + l.key.length / 20 ≤ n ∧ ∀ k, k < 100 → ∀ r, l.set[k]? = some r → RecSmall r
theorem light_c {w : World} {v : Value} {ls : List Lf} (hv : SeesL LfC 2 w v ls) :
    Calls Tryz.prog 17 #[v] w (Ret fun r w' => Ext w w' ∧ ∃ b, r = .bool b ∧ (b = true → ls.length ≤ 20 ∧ ∀ l ∈ ls, LfSmall l)) := by
  have hlen := hv.len
  obtain ⟨cells, hs⟩ := hv.sees
  refine vc_buttresslaw12_light ?_
  unfold V_buttresslaw12_light
  refine ⟨fun xs w' => ∃ n i : Nat, xs = [i64 n] ∧ Ext w w' ∧ i ≤ ls.length ∧ (∀ j l, j < i → ls[j]? = some l → Seen n l) ∧ (i = ls.length ∨ 21 ≤ i ∨ 60 < n) ∧ n ≤ 4611686018427387904, ?_, ?_⟩
  · refine ⟨fun m xs w' => ∃ n i : Nat, xs = [i64 n, i64 i] ∧ m + i = ls.length ∧ Ext w w' ∧ (∀ j l, j < i → ls[j]? = some l → Seen n l) ∧ n ≤ 4611686018427387904, ⟨ls.length, 0, 0, rfl, rfl, Ext.refl _, fun j l h => absurd h (by omega), by omega⟩, ?_⟩
    rintro m1 x3 x4 j1 w1 ⟨n, i, hx, hm, hx1, hseen, hn⟩
    obtain ⟨rfl, rfl⟩ : x3 = i64 n ∧ x4 = i64 i := by simpa using hx
    refine DoN_pu (pu_len Tryz.underlying30 hs) ?_
    refine Do_pu pu_lss (BoolS_if (fun hi => ?_) fun hi => ⟨n, i, rfl, hx1, by omega, hseen, .inl (by omega), hn⟩)
    refine Do_pu pu_lss (BoolS_if (fun h21 => ?_) fun h21 => ⟨n, i, rfl, hx1, by omega, hseen, .inr (.inl (by omega)), hn⟩)
    refine Do_pu pu_leq (CondV_if (fun h60 => ?_) fun h60 => ⟨n, i, rfl, hx1, by omega, hseen, .inr (.inr (by omega)), hn⟩)
    have hil : i < ls.length := by omega
    obtain ⟨lc, cs, hsl, ⟨sv, rfl, hrs, hkl⟩, _, hcs⟩ := hv.get hil
    have hrl := hrs.len
    obtain ⟨rc, hsr⟩ := hrs.sees
    have hsz : ∀ {z : World}, Ext w1 z → Sees z v ls.length lc := fun hz => hsl.ext (hx1.trans hz)
    refine ⟨Ext, fun _ _ _ => True, Pre.ext, fun _ _ _ _ _ _ => trivial, ?_⟩
    refine PureQ_pu (hsl.indexP (i := i) (s := 2) Tryz.underlying30 (by kernel_rfl) hil) ?_
    refine PureQ_pu (hsl.fieldP (by omega) Tryz.underlying83 rfl (n := 0) (o := 1) (by kernel_rfl) rfl) ?_
    refine PureQ_at (v := sv) (fun z hz => (hsz ((Ext.drew _).trans hz.1)).loadP Tryz.underlying47 rfl (hcs 1 sv rfl)) ?_
    refine PureN_pu (pu_len Tryz.underlying47 hsr) ?_
    refine PureN_pu (pu_minN (b := 100)) ?_
    refine PureQ_pu (pu_iadd (by omega) (by omega)) ?_
    refine PureQ_pu (hsl.indexP (i := i) (s := 2) Tryz.underlying30 (by kernel_rfl) hil) ?_
    refine PureQ_pu (hsl.fieldP (by omega) Tryz.underlying83 rfl (n := 0) (o := 0) (by kernel_rfl) rfl) ?_
    refine PureQ_at (v := str ls[i].key) (fun z hz => (hsz ((Ext.drew _).trans hz.1)).loadP Tryz.underlying9 rfl (hcs 0 _ rfl)) ?_
    refine PureN_pu (pu_lenS Tryz.underlying9) ?_
    refine PureQ_pu (pu_iquo (by omega) (by omega) (by omega)) ?_
    intro w6 hx6 _
    have hx16 : Ext w1 w6 := (Ext.drew _).trans hx6
    refine Do_pu (pu_iadd (by omega) (by omega)) ?_
    refine ⟨fun m xs w' => ∃ k : Nat, xs = [i64 k] ∧ m + k = ls[i].set.length ∧ Ext w1 w' ∧ ∀ k' r, k' < k → ls[i].set[k']? = some r → RecSmall r, ⟨ls[i].set.length, 0, rfl, rfl, hx16, fun k' r h => absurd h (by omega)⟩, ?_⟩
    rintro m2 x5 j2 w8 ⟨k, hx5, hm2, hx8, hsm⟩
    obtain rfl : x5 = i64 k := by simpa using hx5
    have nxt : ∀ z : World, Ext w1 z → (k = ls[i].set.length ∨ 100 ≤ k) → ∃ m', m' < m1 ∧ ∃ n' i' : Nat, [i64 (↑n + ↑(min ls[i].set.length 100) + ↑ls[i].key.length / 20), i64 (↑i + 1)] = [i64 n', i64 i'] ∧ m' + i' = ls.length ∧ Ext w z ∧ (∀ j l, j < i' → ls[j]? = some l → Seen n' l) ∧ n' ≤ 4611686018427387904 := fun z hz hk => by
      refine ⟨m1 - 1, by omega, n + min ls[i].set.length 100 + ls[i].key.length / 20, i + 1, by simp, by omega, hx1.trans hz, fun j l hj hl => ?_, by omega⟩
      by_cases hji : j < i
      · have := hseen j l hji hl
        exact ⟨by have := this.1; omega, this.2⟩
      · obtain rfl : j = i := by omega
        rw [List.getElem?_eq_getElem hil] at hl
        cases hl
        exact ⟨by omega, fun k' hk' r hr => hsm k' r (by have := (List.getElem?_eq_some_iff.1 hr).1; omega) hr⟩
    refine Do_pu (hsl.indexP (i := i) (s := 2) Tryz.underlying30 (by kernel_rfl) hil) ?_
    refine Do_pu (hsl.fieldP (by omega) Tryz.underlying83 rfl (n := 0) (o := 1) (by kernel_rfl) rfl) ?_
    refine Do_of ((hsz hx8).loadP Tryz.underlying47 rfl (hcs 1 sv rfl)) ?_
    refine DoN_pu (pu_len Tryz.underlying47 hsr) ?_
    refine Do_pu pu_lss (BoolS_if (fun hk => ?_) fun hk => Do_pu (pu_iadd (by omega) (by omega)) (nxt _ hx8 (.inl (by omega))))
    refine Do_pu pu_lss (CondV_if (fun hk100 => ?_) fun hk100 => Do_pu (pu_iadd (by omega) (by omega)) (nxt _ hx8 (.inr (by omega))))
    have hkl' : k < ls[i].set.length := by omega
    refine Do_pu (hsl.indexP (i := i) (s := 2) Tryz.underlying30 (by kernel_rfl) hil) ?_
    refine Do_pu (hsl.fieldP (by omega) Tryz.underlying83 rfl (n := 0) (o := 1) (by kernel_rfl) rfl) ?_
    refine Do_of ((hsz hx8).loadP Tryz.underlying47 rfl (hcs 1 sv rfl)) ?_
    obtain ⟨rc', rcs, hsr', ⟨cv, vv, gv, rfl, hcv, hvv, hgv, hrk, _⟩, _, hrcs⟩ := (hrs.ext RecC.mono (Ext.refl _)).get hkl'
    have hcl := hcv.len
    have hvl := hvv.len
    have hgl := hgv.len
    obtain ⟨dc, hdc⟩ := hcv.sees
    refine Do_pu (hsr'.indexP (i := k) (s := 7) Tryz.underlying47 (by kernel_rfl) hkl') ?_
    refine Do_of ((hsr'.ext (hx1.trans hx8)).loadPA Tryz.underlying86 rfl (us := [str ls[i].set[k].key, i64 ls[i].set[k].client, i64 ls[i].set[k].seq, cv, .bool ls[i].set[k].gone, vv, gv]) (by kernel_rfl) (by simp) hrcs) ?_
    refine Do_alloc (l := [str [], .int .i64 0, .int .i64 0, .slice none 0 0, .bool false, .slice none 0 0, .slice none 0 0]) (by kernel_rfl) fun w20 n20 => ?_
    refine DoU_storeAgg (by kernel_rfl) n20.blk (by simp) (one_cons rfl (one_cons rfl (one_cons rfl (one_cons hdc.one (one_cons rfl (one_cons (Sees.one hvv) (one_cons (Sees.one hgv) one_nil))))))) fun w21 hb21 hg21 => ?_
    have hb := hb21.whole (by simp)
    have hx21 : Ext w1 w21 := (hx8.trans n20.ext).grown hg21 (fun k e => by cases e; exact hx8.size)
    refine Do_pu (pu_field Tryz.underlying86 rfl (n := 0) (o := 0) (by kernel_rfl) rfl) ?_
    refine Do_load Tryz.underlying9 rfl ((hb.cell _).trans rfl) ?_
    refine DoN_pu (pu_lenS Tryz.underlying9) ?_
    refine Do_pu pu_gtr (BoolS_if (fun _ => Ret.of ⟨hx1.trans hx21, false, rfl, fun h => by cases h⟩) fun h1 => ?_)
    refine Do_pu (pu_field Tryz.underlying86 rfl (n := 0) (o := 5) (by kernel_rfl) rfl) ?_
    refine Do_load Tryz.underlying22 rfl ((hb.cell _).trans rfl) ?_
    refine DoN_pu (pu_len Tryz.underlying22 hvv) ?_
    refine Do_pu pu_gtr (BoolS_if (fun _ => Ret.of ⟨hx1.trans hx21, false, rfl, fun h => by cases h⟩) fun h2 => ?_)
    refine Do_pu (pu_field Tryz.underlying86 rfl (n := 0) (o := 3) (by kernel_rfl) rfl) ?_
    refine Do_load Tryz.underlying84 rfl ((hb.cell _).trans rfl) ?_
    refine DoN_pu (pu_len Tryz.underlying84 hdc) ?_
    refine Do_pu pu_gtr (BoolS_if (fun _ => Ret.of ⟨hx1.trans hx21, false, rfl, fun h => by cases h⟩) fun h3 => ?_)
    refine Do_pu (pu_field Tryz.underlying86 rfl (n := 0) (o := 6) (by kernel_rfl) rfl) ?_
    refine Do_load Tryz.underlying22 rfl ((hb.cell _).trans rfl) ?_
    refine DoN_pu (pu_len Tryz.underlying22 hgv) ?_
    refine Do_pu pu_gtr (CondV_if (fun _ => Ret.of ⟨hx1.trans hx21, false, rfl, fun h => by cases h⟩) fun h4 => ?_)
    refine Do_pu (pu_iadd (by omega) (by omega)) ?_
    refine ⟨m2 - 1, by omega, k + 1, by simp, by omega, hx21, fun k' r hk' hr => ?_⟩
    by_cases hkk : k' < k
    · exact hsm k' r hkk hr
    · obtain rfl : k' = k := by omega
      rw [List.getElem?_eq_getElem hkl'] at hr
      cases hr
      exact ⟨by omega, by omega, by omega, by omega⟩
  · rintro x3 j1 w41 ⟨n, i, hx, hx1, hil, hseen, hex, hn⟩
    obtain rfl : x3 = i64 n := by simpa using hx
    refine DoN_pu (pu_len Tryz.underlying30 hs) ?_
    refine Do_pu pu_leq (BoolS_if (fun h20 => ?_) fun _ => Ret.of ⟨hx1, false, rfl, fun h => by cases h⟩)
    refine Do_pu pu_leq (Ret.of ⟨hx1, _, rfl, fun h => ⟨by omega, fun l hl => ?_⟩⟩)
    have h60 := of_decide_eq_true h
    obtain ⟨j, hj, rfl⟩ := List.getElem_of_mem hl
    have := hseen j _ (by omega) (List.getElem?_eq_getElem hj)
    have h1 := this.1
    refine ⟨by omega, by omega, fun r hr => ?_⟩
    obtain ⟨k, hk, rfl⟩ := List.getElem_of_mem hr
    exact this.2 k (by omega) _ (List.getElem?_eq_getElem hk)
end Go.Proofs.YtpdceilhgaladaaGreatDoor.Law12
