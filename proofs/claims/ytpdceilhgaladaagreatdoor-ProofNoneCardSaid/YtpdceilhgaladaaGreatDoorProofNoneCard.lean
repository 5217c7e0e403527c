/- PROVED: the statement ProofNone: for every key that the row speaks of, the call of buttresslaw13.ProofNone returns true, and its argument reads as before (trees that aren't there). CONDITIONS: those of the given row and card: the listed package-level variables hold what the program's text lays. -/
import Derived.Test.YtpdceilhgaladaaGreatDoorFin
import Derived.Test.YtpdceilhgaladaaGreatDoorProofNone
namespace Go.Proofs.YtpdceilhgaladaaGreatDoor.ProofNoneP
open Go.ChangeShapes Go.WideShapes Go.ChangeAt Go.RowKit Go.Vc Go.Vc.Sha Go.Proofs.YtpdceilhgaladaaGreatDoor Go.Proofs.YtpdceilhgaladaaGreatDoor.Fin
abbrev fn := 4
set_option maxRecDepth 100000 in
theorem contract (H : Type) (enc : TypeId × Value → H) (W : World) (base : Nat) (args : Array Value) (ds gs : List (DataW H)) (before : List MemPlace)
    (hval : ∀ (j : Nat) t v, Tryz.f4.params[j]? = some t → args[j]? = some v → Value.okWide Tryz.prog W .any base t v)
    (hW : DataW.Whole enc Tryz.prog Tryz.f4.params.toList Rows.proofNoneSpec.vars false W args.toList ds gs before) (hL : laidMetH Tryz.prog Rows.proofNoneRow.laid W) :
    Calls Tryz.prog fn args W fun e W' => ∃ v, e = .returned v ∧ Rows.proofNoneSpec.post enc Tryz.prog Tryz.f4 false true false false W args v W' := by
  have hW' := hW
  obtain ⟨p, q, hA0, hV, rfl, hfz, hnd⟩ := hW
  have hA : DataW.TrodAll enc Tryz.prog W 0 (fun _ => true) true Tryz.f4.params.toList args.toList ds p := hA0
  rw [Tryz.params4] at hA hval
  obtain ⟨v0, vs0, d0, ds0, p0, q0, hargs, rfl, rfl, h0, r0⟩ := trodAll_cons hA
  obtain ⟨rfl, rfl, rfl⟩ := trodAll_nil r0
  obtain rfl : args = #[v0] := by cases args; simp_all
  obtain ⟨rfl, rfl⟩ := trodVars_none hV
  obtain k0 := ok1 hval
  obtain ⟨s0, rfl⟩ := okWide_string Tryz.underlying9 k0
  obtain ⟨f0, h0⟩ := h0
  obtain ⟨l0, hl0, hll0⟩ := open_str Tryz.underlying9 h0
  have he0 : Value.string s0 = str l0 := by simpa [Value.cells] using hl0
  rw [he0] at hW' ⊢
  have hk : Laid W := laid_of hL (by kernel_rfl) (by kernel_rfl)
  refine Calls.mono (R := Ret fun v w' => v = .bool true ∧ Ext W w') ?_ fun e W' he => ?_
  · exact Law13.proofNone_c hk l0 hll0
  · obtain ⟨r, rfl, rfl, hx⟩ := he
    exact ⟨_, rfl, post_true laidOut (by kernel_rfl) rfl (by kernel_rfl) Tryz.underlying4 ⟨rfl, rfl, rfl⟩ hW' hx⟩
theorem laid_met (os : Os) : laidMet Tryz.prog Rows.proofNoneRow.laid ((laidWorld os).forCall (fun _ _ => 0) ⟨#[], #[.string ⟨#[]⟩], []⟩).memory :=
  laidMet_of_run' 8 (by kernel_rfl) (by kernel_rfl)
theorem reads (os : Os) {H : Type} (enc : TypeId × Value → H) : ∃ places, DataW.whole enc Tryz.prog ((laidWorld os).forCall (fun _ _ => 0) ⟨#[], #[.string ⟨#[]⟩], []⟩).memory Tryz.f4.params.toList Rows.proofNoneSpec.vars false (#[.string ⟨#[]⟩] : Array Value).toList 8 = some ([.lit (.string [])], [], places) :=
  ⟨[], by kernel_rfl⟩
set_option maxRecDepth 100000 in
theorem lifted (os : Os) (started : os.Started) (H : Type) (enc : TypeId × Value → H) (F : Stop.Interp) :
    ReturnsInHanded {} Tryz.checked os fn .any ((OpenSpec.ofChange Rows.proofNoneSpec).preRow enc Tryz.prog Tryz.f4 Rows.proofNoneRow.domain false Rows.proofNoneRow.laid) (((OpenSpec.ofChange Rows.proofNoneSpec).at F).post enc Tryz.prog Tryz.f4 false true false false) := by
  obtain ⟨places, hx⟩ := reads os enc
  refine returnsInHanded_of_row (C := Tryz.checked) (s := OpenSpec.ofChange Rows.proofNoneSpec) own started (by kernel_rfl) Tryz.func4
    (witness_row_at (enc := enc) (C := Tryz.checked) false (laidWorld os) #[.string ⟨#[]⟩] rfl (by kernel_rfl) (by kernel_rfl) (by kernel_rfl)
      (OpenSpec.preRow_of_cond 8 hx (by kernel_rfl) (fun k hk => by cases hk) (by kernel_rfl) (laid_met os))) ?_
  intro W base args ds gs before hval hW _ _ _ hL _ _
  exact contract H enc W base args ds gs before hval hW hL
theorem said : Rows.ProofNoneSaid :=
  OpenClaim.holds_of_cond fn Tryz.f4 rfl rfl rfl rfl rfl rfl rfl ⟨rfl, rfl, rfl, rfl, rfl⟩ rfl rfl rfl rfl rfl (by kernel_rfl) Tryz.func4 (by kernel_rfl)
    (of_decide_eq_true (by kernel_rfl)) (by unfold Func.isWrapper; first | (rw [if_pos (by decide +kernel)]; kernel_rfl) | (rw [if_neg (by decide +kernel)]; exact ⟨rfl, rfl⟩))
    (fun os started H enc _ F => by rw [OpenClaim.pre_eq_preRow]; exact lifted os started H enc F)
/-- No parameter wants a stand-in; the program's own looks: what the card asks. -/
theorem plain (f : FuncId) (g : Func) (hf : Tryz.pinned.checked.prog.funcNamed "buttress/buttresslaw13.ProofNone" = some f) (hfn : Tryz.pinned.checked.prog.funcs[f]? = some g) :
    true = Tryz.pinned.checked.prog.looks [] ∧ ∀ (j : Nat) t, g.params[j]? = some t → Tryz.pinned.checked.prog.wantsStandIn t = false := by
  obtain rfl : f = fn := Option.some.inj ((show Tryz.prog.funcNamed "buttress/buttresslaw13.ProofNone" = some fn by kernel_rfl).symm.trans hf) |>.symm
  obtain rfl : g = Tryz.f4 := (Option.some.inj (Tryz.func4.symm.trans hfn)).symm
  refine ⟨by kernel_rfl, fun j t ht => ?_⟩
  have hall : (Tryz.f4.params.toList.all fun t => !(Tryz.prog.wantsStandIn t)) = true := by kernel_rfl
  have := List.all_eq_true.1 hall t (by simpa using Array.mem_of_getElem? ht)
  exact (by simpa using this : Tryz.prog.wantsStandIn t = false)
/-- THE CARD. -/
theorem card : Rows.ProofNoneCardSaid :=
  Claim7.holds_tied_plain_at .later [] _ _ _ _ said (fun _ h => by cases h) (by kernel_rfl) (fun _ h => by cases h) proofNone_row_tie rfl ⟨rfl, rfl⟩ (by kernel_rfl) rfl plain (by kernel_rfl)
end Go.Proofs.YtpdceilhgaladaaGreatDoor.ProofNoneP
