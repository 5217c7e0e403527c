/- The last step, for each statement of the seat: from 'the call returns true and leaves all that was there' to the row's words; the world of the witness. -/
import Derived.Test.YtpdceilhgaladaaGreatDoorCards
import Derived.Test.YtpdceilhgaladaaGreatDoorTie
import Derived.Test.YtpdceilhgaladaaGreatDoorData
import Derived.Test.YtpdceilhgaladaaGreatDoorSha
import Derived.WalkKit
import Derived.ProofKit
import Derived.OpenShut
import Derived.WideKeyArgs
import Derived.Deep.DeepHandedRow
import Derived.Lib.LaidTab
import Derived.LaidSub
import Derived.MakeChecks
namespace Go.Proofs.YtpdceilhgaladaaGreatDoor.Fin
open Go.ChangeShapes Go.WideShapes Go.ChangeAt Go.RowKit Go.Vc Go.Vc.Sha Go.Proofs.YtpdceilhgaladaaGreatDoor
theorem own : ownKnob Tryz.prog.godebug = none := by kernel_rfl
theorem laidOut : laidOutB Tryz.prog = true := by kernel_rfl

section
variable {H : Type} {enc : TypeId × Value → H} {P : Program}
theorem trodAll_stays (hl : laidOutB P = true) {W W' : World} (hb : Below W.heap.size W W') {sp : Nat → Bool} : ∀ (ts : List TypeId) (vs : List Value) (ds : List (DataW H)) (p : List MemPlace),
    (ts.all fun t => P.readableRec t && Nat.blt t P.types.size) = true → DataW.TrodAll enc P W 0 (fun _ => true) true ts vs ds p → (∀ x ∈ p, x.block < W.heap.size) → (∀ x ∈ p, sp x.block = true) → DataW.TrodAll enc P W' 0 sp true ts vs ds p
  | [], vs, ds, p, _, h, _, _ => by
    obtain ⟨rfl, rfl, rfl⟩ := trodAll_nil h
    exact trodAll_mk0
  | t :: ts, vs, ds, p, ht, h, hlt, hsp => by
    obtain ⟨v, vs, d, ds, a, b, rfl, rfl, rfl, h1, h2⟩ := trodAll_cons h
    rw [List.all_cons, Bool.and_eq_true, Bool.and_eq_true] at ht
    exact trodAll_cons_mk (WideElems.Trod_stays hl ht.1.1 (by simpa using ht.1.2) h1 (fun x hx => hb.same (hlt x (by simp [hx]))) (fun x hx => hsp x (by simp [hx])))
      (trodAll_stays hl hb ts vs ds b ht.2 h2 (fun x hx => hlt x (by simp [hx])) (fun x hx => hsp x (by simp [hx])))
theorem ok1 {W : World} {base : Nat} {t0 : TypeId} {v0 : Value} (h : ∀ (j : Nat) t v, #[t0][j]? = some t → #[v0][j]? = some v → Value.okWide P W .any base t v) : Value.okWide P W .any base t0 v0 := h 0 t0 v0 rfl rfl
theorem ok2 {W : World} {base : Nat} {t0 t1 : TypeId} {v0 v1 : Value} (h : ∀ (j : Nat) t v, #[t0, t1][j]? = some t → #[v0, v1][j]? = some v → Value.okWide P W .any base t v) : Value.okWide P W .any base t0 v0 ∧ Value.okWide P W .any base t1 v1 :=
  ⟨h 0 t0 v0 rfl rfl, h 1 t1 v1 rfl rfl⟩
theorem ok3 {W : World} {base : Nat} {t0 t1 t2 : TypeId} {v0 v1 v2 : Value} (h : ∀ (j : Nat) t v, #[t0, t1, t2][j]? = some t → #[v0, v1, v2][j]? = some v → Value.okWide P W .any base t v) : Value.okWide P W .any base t0 v0 ∧ Value.okWide P W .any base t1 v1 ∧ Value.okWide P W .any base t2 v2 :=
  ⟨h 0 t0 v0 rfl rfl, h 1 t1 v1 rfl rfl, h 2 t2 v2 rfl rfl⟩
theorem ok4 {W : World} {base : Nat} {t0 t1 t2 t3 : TypeId} {v0 v1 v2 v3 : Value} (h : ∀ (j : Nat) t v, #[t0, t1, t2, t3][j]? = some t → #[v0, v1, v2, v3][j]? = some v → Value.okWide P W .any base t v) : Value.okWide P W .any base t0 v0 ∧ Value.okWide P W .any base t1 v1 ∧ Value.okWide P W .any base t2 v2 ∧ Value.okWide P W .any base t3 v3 :=
  ⟨h 0 t0 v0 rfl rfl, h 1 t1 v1 rfl rfl, h 2 t2 v2 rfl rfl, h 3 t3 v3 rfl rfl⟩
/-- What the row asks behind the call, where the call returned true and only made new blocks. -/
theorem post_true {f : Func} {s : ChangeSpec} {apart fresh handsOn again : Bool} {W W' : World} {args : Array Value} {ds gs : List (DataW H)} {before : List MemPlace} {tb : TypeId} (hl : laidOutB P = true)
    (hts : (f.params.toList.all fun t => P.readableRec t && Nat.blt t P.types.size) = true) (hvars : s.vars = []) (hres : f.resultTypes = #[tb]) (htb : P.underlying tb = some .bool)
    (hfn : (s.fn H (ds ++ [])).results = [.lit (.bool true)] ∧ (s.fn H (ds ++ [])).args = ds ∧ (s.fn H (ds ++ [])).vars = [])
    (hW : DataW.Whole enc P f.params.toList s.vars apart W args.toList ds gs before) (hb : Ext W W') : s.post enc P f apart fresh handsOn again W args (.bool true) W' := by
  have hlt : ∀ p ∈ before, p.block < W.heap.size := fun p hp => hW.lt p hp
  have hold : ∀ p ∈ before, (fun b => decide (b < W.heap.size)) p.block = true := fun p hp => by simpa using hlt p hp
  have hW' := hW
  obtain ⟨p, q, hA, hV, rfl, hz, hn⟩ := hW
  rw [hvars] at hV
  obtain ⟨rfl, rfl⟩ := trodVars_none hV
  obtain ⟨hf1, hf2, hf3⟩ := hfn
  rw [List.append_nil] at hlt hold hz hn
  have hargs : ∀ sp : Nat → Bool, (∀ x ∈ p, sp x.block = true) → DataW.TrodAll enc P W' 0 sp true f.params.toList args.toList (s.fn H (ds ++ [])).args p := fun sp hsp => by
    rw [hf2]; exact trodAll_stays hl hb _ _ _ _ hts hA hlt hsp
  have hres' : ∀ (b : Nat) (sp : Nat → Bool) (hd : Bool), DataW.TrodAll enc P W' b sp hd f.resultTypes.toList ((Value.bool true).resultList f.resultTypes.size) (s.fn H (ds ++ [])).results [] := fun b sp hd => by
    rw [hf1, hres]; exact trodAll_cons_mk (shut_bool htb _) trodAll_mk0
  have hvars' : ∀ sp : Nat → Bool, DataW.TrodVars enc P W' sp s.vars (s.fn H (ds ++ [])).vars [] := fun sp => by
    rw [hf3, hvars]; rfl
  refine ⟨ds, [], p ++ [], [], p, [], hW', hres' _ _ _, hargs _ hold, hvars' _, World.keptBut_mono (fun x hx => ⟨hx, ?_⟩) (Below.frame hb (· ∈ p ++ [])), fun _ => ?_⟩
  · rw [List.append_nil] at hx; exact Or.inr (Or.inl hx)
  · refine ⟨ok_one hres rfl (okWide_bool_mk htb _), _, _, ([] ++ p) ++ [], ⟨[] ++ p, [], trodAll_append (hargs _ (fun _ _ => rfl)) (hres' _ _ _), hvars' _, rfl, ?_, ?_⟩, ?_⟩
    · intro b off hp
      have hin : MemPlace.cell b off ∈ p := by simpa using hp
      rw [hb.frozen (hlt _ hin)]
      exact hz b off hin
    · intro ha
      simpa using hn ha
    · intro x hx _
      simpa using hx
end

/-! ### What the listed variables hold -/
def kZ : List Int := kS.map fun x => (x.toNat : Int)
def v0Z : List Int := v0S.map fun x => (x.toNat : Int)
theorem kS_len : kS.length = 80 := by decide +kernel
theorem v0S_len : v0S.length = 8 := rfl
theorem laid_of {L : List (String × DataW Unit)} {W : World} (hL : laidMetH Tryz.prog L W)
    (h1 : L.filter (fun x => x.1 == "buttress/sha.rest") = [("buttress/sha.rest", Lib.tabData .u64 kZ)]) (h2 : L.filter (fun x => x.1 == "buttress/sha.begin") = [("buttress/sha.begin", Lib.tabData .u64 v0Z)]) : Laid W := by
  have k1 := hL.filter (fun x => x.1 == "buttress/sha.rest")
  have k2 := hL.filter (fun x => x.1 == "buttress/sha.begin")
  rw [h1] at k1
  rw [h2] at k2
  have t1 := Lib.tabIs_of_head (rest := []) (g := 2) (t := 241) (e := 191) (n := 80) (by kernel_rfl) (by kernel_rfl) Tryz.underlying241 Tryz.underlying191 (by kernel_rfl) (by kernel_rfl) (laidMetH_iff.1 k1).1
  have t2 := Lib.tabIs_of_head (rest := []) (g := 0) (t := 215) (e := 191) (n := 8) (by kernel_rfl) (by kernel_rfl) Tryz.underlying215 Tryz.underlying191 (by kernel_rfl) (by kernel_rfl) (laidMetH_iff.1 k2).1
  refine ⟨fun j hj => ?_, fun j hj => ?_⟩
  · rw [t1.cell (g := 2) (by kernel_rfl) j (by unfold kZ; rw [List.length_map, kS_len]; exact hj)]
    have : j < kS.length := by rw [kS_len]; exact hj
    simp [kZ, u64, List.getD, this]
  · rw [t2.cell (g := 0) (by kernel_rfl) j (by unfold v0Z; rw [List.length_map, v0S_len]; exact hj)]
    have : j < v0S.length := by rw [v0S_len]; exact hj
    simp [v0Z, u64, List.getD, this]

/-! ### The world of the witness -/
def flatD {H : Type} : Nat → DataW H → List Value
  | _ + 1, .lit (.int k n) => [.int k n]
  | m + 1, .agg ds => ds.flatMap (flatD m)
  | _, _ => []
noncomputable def lay (g : Nat) (d : DataW Unit) (h : Array Obj) : Array Obj := h.modify g fun
  | .cells _ t frozen => .cells (flatD 4 d).toArray t frozen
  | o => o
noncomputable def laidWorld (os : Os) : World :=
  { World.holding Tryz.prog os ⟨#[], #[], []⟩ with heap := lay 3 Rows.laid_unicode_utf8_first (lay 4 Rows.laid_unicode_utf8_acceptRanges (lay 2 Rows.laid_buttress_sha_rest (lay 0 Rows.laid_buttress_sha_begin (World.holding Tryz.prog os ⟨#[], #[], []⟩).heap))) }
end Go.Proofs.YtpdceilhgaladaaGreatDoor.Fin
