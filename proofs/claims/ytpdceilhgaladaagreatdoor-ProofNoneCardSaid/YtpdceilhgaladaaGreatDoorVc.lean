/- The verification conditions of a function's code, reckoned by a function, and that they suffice. -/
import Derived.WalkKit
import Derived.Deep.LoopGhost
import Derived.RangeFuncRecord
import Derived.RecoverIn
import Derived.OrdersIn
namespace Go.Vc
open Go.RowKit

/-- The world has only grown. -/
abbrev Ext (w w' : World) : Prop := Below w.heap.size w w'
theorem Ext.trans {a b c : World} (h : Ext a b) (k : Ext b c) : Ext a c := Below.trans h (Below.mono k h.size)
theorem Ext.refl (w : World) : Ext w w := Below.refl _ _
theorem Ext.drew (w : World) : Ext w w.drew := (Below.refl _ w).drew
/-- What a drawn region may do to the world, all told. -/
structure Pre (E : World → World → Prop) : Prop where
  refl : ∀ w, E w w
  trans : ∀ {a b c}, E a b → E b c → E a c
theorem Pre.ext : Pre Ext := ⟨Ext.refl, Ext.trans⟩

abbrev Env := Nat → Value
def upd (ρ : Env) (d : Nat) (v : Value) : Env := fun t => bif Nat.beq t d then v else ρ t
def updO (ρ : Env) (d : Option Nat) (v : Value) : Env := match d with | some d => upd ρ d v | none => ρ
def ev (ρ : Env) : Operand → Value
  | .tmp t => ρ t
  | .const v => v
  | .global g => .pointer (some ⟨g, 0, none⟩)
  | .func f => .func (.func f) #[] #[]

theorem upd_same (ρ : Env) (d : Nat) (v : Value) : upd ρ d v d = v := by simp [upd]
theorem upd_ne (ρ : Env) {d t : Nat} (v : Value) (h : t ≠ d) : upd ρ d v t = ρ t := by
  have : Nat.beq t d = false := by
    cases hb : Nat.beq t d with
    | true => exact absurd (Nat.eq_of_beq_eq_true hb) h
    | false => rfl
  simp [upd, this]

/-- The frame is that environment. -/
structure Agrees (n : Nat) (DD : List Deferred) (a : Act) (ρ : Env) : Prop where
  defers : a.defers = DD
  size : a.tmps.size = n
  at_ : ∀ t, a.tmps.getD t undef = ρ t

theorem Agrees.eval {n : Nat} {DD : List Deferred} {a : Act} {ρ : Env} (h : Agrees n DD a ρ) (x : Operand) : a.eval x = ev ρ x := by
  cases x <;> simp only [Act.eval, ev]
  exact h.at_ _
theorem Agrees.eval_eq {n : Nat} {DD : List Deferred} {a : Act} {ρ : Env} (h : Agrees n DD a ρ) : a.eval = ev ρ := funext h.eval

def dstOk (n : Nat) (o : Oper) : Bool := match o.dst with | some d => Nat.blt d n | none => true

theorem Agrees.put {n : Nat} {DD : List Deferred} {a : Act} {ρ : Env} (h : Agrees n DD a ρ) {d : Option Nat} (hd : ∀ x, d = some x → x < n) (v : Value) : Agrees n DD (a.put d v) (updO ρ d v) := by
  cases d with
  | none => exact h
  | some d =>
    have hlt := hd d rfl
    refine ⟨h.defers, by simp [Act.put, h.size], fun t => ?_⟩
    by_cases e : t = d
    · subst e
      simp [Act.put, updO, upd_same, h.size, hlt]
    · have e' : d ≠ t := fun x => e x.symm
      simp only [Act.put, updO, upd_ne _ _ e]
      rw [← h.at_ t]
      simp [Array.getElem?_setIfInBounds_ne e']

/-! ### One operation -/
def opK (P : Program) (ρ : Env) (o : Oper) (w : World) (K : Value → World → Prop) (Kp : List PanicEntry → World → Prop) : Prop :=
  match (execOp (ev ρ) o).run P w with
  | .ok (.value v) w' => K v w'
  | .ok .skip w' => K undef w'
  | .ok (.enter f args) w' => Calls P f args w' fun e w'' => match e with | .returned v => K v w'' | .panicked ch => Kp ch w'' | .outgrown => False
  | .ok (.round l f tmps assign body) w' => RoundIn Fence.wide 0 P l f tmps assign body w' fun e w'' => match e with | .returned v => K v w'' | .panicked ch => Kp ch w'' | .outgrown => False
  | .halt (.panic v) w' => Kp [{ v, recovered := false }] w'
  | _ => False

theorem opK_mono {P : Program} {ρ : Env} {o : Oper} {w : World} {K K' : Value → World → Prop} {Kp Kp' : List PanicEntry → World → Prop}
    (hk : ∀ v w, K v w → K' v w) (hp : ∀ c w, Kp c w → Kp' c w) (h : opK P ρ o w K Kp) : opK P ρ o w K' Kp' := by
  unfold opK at *
  generalize (execOp (ev ρ) o).run P w = r at *
  cases r with
  | ok n w' =>
    cases n <;> simp only at h ⊢
    case value v => exact hk _ _ h
    case skip => exact hk _ _ h
    case enter f args => exact h.mono fun e w'' he => by cases e <;> first | exact hk _ _ he | exact hp _ _ he | exact he
    case round l f tmps assign body => exact RoundIn.mono h fun e w'' he => by cases e <;> first | exact hk _ _ he | exact hp _ _ he | exact he
  | halt x w' => cases x <;> simp only at h ⊢ <;> exact hp _ _ h

theorem opK_wp {P : Program} {ρ : Env} {o : Oper} {a : Act} {w : World} {K : Value → World → Prop} {Kp : List PanicEntry → World → Prop}
    {K' : Act → World → Prop} {Q' : Exit → Act → World → Prop} (he : execOp a.eval o = execOp (ev ρ) o)
    (hk : ∀ v w, K v w → K' (a.put o.dst v) w) (hp : ∀ c w, Kp c w → Q' (.panic c) a w) (h : opK P ρ o w K Kp) : o.wpIn Fence.wide 0 P a w K' Q' := by
  unfold opK at h
  unfold Oper.wpIn
  refine ⟨fun _ _ => trivial, ?_⟩
  rw [show o.semAt Fence.wide.round a.eval = execOp a.eval o from rfl, he]
  generalize (execOp (ev ρ) o).run P w = r at *
  cases r with
  | ok n w' =>
    cases n <;> simp only [Oper.uponIn] at h ⊢
    case value v => exact hk _ _ h
    case skip => exact hk _ _ h
    case enter f args => exact ⟨fun hx => (by cases hx), CallsIn.mono (callsIn_wide.2 h) fun e w'' he => by cases e <;> first | exact hk _ _ he | exact hp _ _ he | exact he.elim⟩
    case round l f tmps assign body => exact ⟨fun hx => (by cases hx), RoundIn.mono h fun e w'' he => by cases e <;> first | exact hk _ _ he | exact hp _ _ he | exact he.elim⟩
  | halt x w' => cases x <;> simp only [Oper.uponIn] at h ⊢ <;> exact hp _ _ h


/-! ### One operation, by its kind -/
structure Do (P : Program) (s : Sem Value) (w : World) (K : Value → World → Prop) (Kp : List PanicEntry → World → Prop) : Prop where
  mk :: (out : match s.run P w with
  | .ok v w' => K v w'
  | .halt (.panic v) w' => Kp [{ v, recovered := false }] w'
  | _ => False)
structure DoU (P : Program) (s : Sem Unit) (w : World) (K : World → Prop) (Kp : List PanicEntry → World → Prop) : Prop where
  mk :: (out : match s.run P w with
  | .ok _ w' => K w'
  | .halt (.panic v) w' => Kp [{ v, recovered := false }] w'
  | _ => False)
def retK (K : Value → World → Prop) (Kp : List PanicEntry → World → Prop) : Ending → World → Prop
  | .returned v, w => K v w
  | .panicked ch, w => Kp ch w
  | .outgrown, _ => False
structure DoN (P : Program) (s : Sem Next) (w : World) (K : Value → World → Prop) (Kp : List PanicEntry → World → Prop) : Prop where
  mk :: (out : match s.run P w with
  | .ok (.value v) w' => K v w'
  | .ok .skip w' => K undef w'
  | .ok (.enter f args) w' => Calls P f args w' (retK K Kp)
  | .ok (.round l f tmps assign body) w' => RoundIn Fence.wide 0 P l f tmps assign body w' (retK K Kp)
  | .halt (.panic v) w' => Kp [{ v, recovered := false }] w'
  | _ => False)
/-- A call (behind a name that nothing opens). -/
structure CallS (P : Program) (f : FuncId) (args : Array Value) (w : World) (R : Ending → World → Prop) : Prop where
  mk :: (out : Calls P f args w R)

theorem run_bind {α β : Type} (P : Program) (f : α → Sem β) (s : Sem α) : ∀ (w : World), (s.bind f).run P w = match s.run P w with | .ok a w' => (f a).run P w' | .halt h w' => .halt h w' := by
  induction s with
  | pure a => exact fun w => rfl
  | load m a k ih =>
    intro w
    simp only [Sem.bind, Sem.run]
    split
    · exact ih _ w
    · split
      · exact ih _ w
      · rfl
  | store m a v k ih =>
    intro w
    cases v <;> simp only [Sem.bind, Sem.run] <;> (split <;> (try (split)) <;> first | rfl | exact ih _)
  | new o k ih => exact fun w => ih _ _
  | shape r k ih => exact fun w => ih _ _
  | freeze a n k ih => exact fun w => ih _
  | frozen a k ih => exact fun w => ih _ _
  | getObj r k ih =>
    intro w
    simp only [Sem.bind, Sem.run]
    split <;> first | rfl | exact ih _ _
  | setObj r o k ih =>
    intro w
    simp only [Sem.bind, Sem.run]
    split <;> first | rfl | exact ih _
  | choose q k ih =>
    intro w
    simp only [Sem.bind, Sem.run]
    split <;> exact ih _ _
  | sys c k ih => exact fun w => ih _ _
  | program k ih => exact fun w => ih _ _
  | mark m k ih => exact fun w => ih _
  | halt h => exact fun w => rfl

theorem DoN_value {P : Program} {s : Sem Value} {w : World} {K : Value → World → Prop} {Kp : List PanicEntry → World → Prop} (h : Do P s w K Kp) : DoN P (s.bind fun v => .pure (.value v)) w K Kp := by
  obtain ⟨h⟩ := h
  refine ⟨?_⟩
  rw [run_bind]
  generalize s.run P w = r at *
  cases r with
  | ok v w' => exact h
  | halt x w' => cases x <;> first | exact h | exact h.elim
theorem DoN_unit {P : Program} {s : Sem Unit} {w : World} {K : Value → World → Prop} {Kp : List PanicEntry → World → Prop} (h : DoU P s w (K undef) Kp) : DoN P (s.bind fun _ => .pure .skip) w K Kp := by
  obtain ⟨h⟩ := h
  refine ⟨?_⟩
  rw [run_bind]
  generalize s.run P w = r at *
  cases r with
  | ok v w' => exact h
  | halt x w' => cases x <;> first | exact h | exact h.elim

def hasBody (P : Program) (f : FuncId) : Bool := match P.funcs[f]? with | some fn => fn.body.isSome && !(fn.name == "runtime.NumGoroutine") | none => false
theorem callFunc_run {P : Program} {f : FuncId} (h : hasBody P f = true) (args : Array Value) (w : World) : (callFunc f args).run P w = .ok (.enter f args) w := by
  unfold hasBody at h
  cases hf : P.funcs[f]? with
  | none => simp [hf] at h
  | some fn =>
    simp only [hf, Bool.and_eq_true, Bool.not_eq_true'] at h
    have hb : fn.body.isNone = false := by cases hx : fn.body <;> simp [hx] at h ⊢
    have e1 : (callFunc f args).run P w = (match P.funcs[f]? with
      | none => stuck "call: no such function"
      | some fn =>
        if fn.name == "runtime.NumGoroutine" then pure .numGoroutine
        else if fn.body.isNone then do
          mark (.extern f)
          if let some e := Extern.findNext fn then return ← e args
          match Extern.find fn with
          | some e => pure (.value (← e args))
          | none =>
            if fn.name.endsWith ".init" && !fn.name.startsWith "(" && !fn.name.startsWith "gosem." then pure (.value (.tuple #[]))
            else unsupported (.extern fn.name)
        else pure (.enter f args) : Sem Next).run P w := rfl
    rw [e1, hf]
    simp only [h.2, hb]
    rfl
/-- A call of a function by its number. -/
def CallF (P : Program) (f : FuncId) (args : List Value) (w : World) (K : Value → World → Prop) (Kp : List PanicEntry → World → Prop) : Prop :=
  match hasBody P f with
  | true => CallS P f args.toArray w (retK K Kp)
  | false => DoN P (callFunc f args.toArray) w K Kp
/-- A call of a function value. -/
def CallV (P : Program) (f : Value) (args : List Value) (w : World) (K : Value → World → Prop) (Kp : List PanicEntry → World → Prop) : Prop :=
  match f with
  | .func (.func g) first cap => CallF P g (first.toList ++ args ++ cap.toList) w K Kp
  | f => DoN P (do let d ← Deferred.ofValue f args.toArray; invoke d.target d.args) w K Kp

theorem CallF_sound {P : Program} {f : FuncId} {args : List Value} {w : World} {K : Value → World → Prop} {Kp : List PanicEntry → World → Prop} (h : CallF P f args w K Kp) : DoN P (callFunc f args.toArray) w K Kp := by
  unfold CallF at h
  cases hb : hasBody P f with
  | true =>
    rw [hb] at h
    refine ⟨?_⟩
    rw [callFunc_run hb]
    exact h.out
  | false => rw [hb] at h; exact h

def argsL (ρ : Env) (xs : Array Operand) : List Value := xs.toList.map (ev ρ)
theorem argsL_eq (ρ : Env) (xs : Array Operand) : (argsL ρ xs).toArray = xs.map (ev ρ) := Array.ext' (by simp [argsL])
def partsL (ρ : Env) (xs : Array (Nat × Operand)) : Array (Nat × Value) := (xs.toList.map fun p => (p.1, ev ρ p.2)).toArray
theorem partsL_eq (ρ : Env) (xs : Array (Nat × Operand)) : partsL ρ xs = xs.map fun (i, x) => (i, ev ρ x) := Array.ext' (by simp [partsL])
def isConstO : Operand → Bool | .const _ => true | _ => false
def constsL (xs : Array Operand) : Array Bool := (xs.toList.map isConstO).toArray
theorem constsL_eq (xs : Array Operand) : constsL xs = xs.map fun | .const _ => true | _ => false := by
  simp only [constsL]
  rw [← List.map_toArray]
  refine Array.map_congr_left fun x _ => ?_
  cases x <;> rfl

/-- The value that an operation reckons, where it is one that reckons a value. -/
def semOf (ρ : Env) (o : Oper) : Option (Sem Value) :=
  match o.op with
  | .alloc t => some (Instr.alloc t true (.tuple #[]))
  | .box t x => some (Instr.box t (ev ρ x))
  | .build t parts => some (Instr.build t (partsL ρ parts))
  | .buildSlice t n parts => some (Instr.buildSlice t n (partsL ρ parts))
  | .load t a => some (Instr.loadAt t (ev ρ a))
  | .binOp op t x y _ => match op with
    | .eql => some (do eqGuard .eql t x y (ev ρ x) (ev ρ y); binOp .eql t (ev ρ x) (ev ρ y))
    | .neq => some (do eqGuard .neq t x y (ev ρ x) (ev ρ y); binOp .neq t (ev ρ x) (ev ρ y))
    | op => some (binOp op t (ev ρ x) (ev ρ y))
  | .unOp op _ x => some (Op.unary op (ev ρ x))
  | .convert s d x => some (convert s d (ev ρ x))
  | .sliceToArrayPointer t x => some (Instr.arrayAt t (ev ρ x))
  | .makeInterface t x => some (Instr.makeInterface t (ev ρ x))
  | .makeFunc fn first cap => some (Instr.makeFunc fn (argsL ρ first).toArray (argsL ρ cap).toArray)
  | .makeMap t r => some (Instr.makeMap t (match r with | some x => some (ev ρ x) | none => none))
  | .makeSlice t l c => some (Instr.makeSlice t (ev ρ l) (ev ρ c))
  | .slice t x lo hi mx => some (Instr.sliceAt t (ev ρ x) (match lo with | some x => some (ev ρ x) | none => none) (match hi with | some x => some (ev ρ x) | none => none) (match mx with | some x => some (ev ρ x) | none => none))
  | .fieldAddr s x f => some (Instr.fieldAt s (ev ρ x) f)
  | .field t x f => some (Instr.field t (ev ρ x) f)
  | .indexAddr t x i => some (Instr.indexAt t (ev ρ x) (ev ρ i))
  | .index t x i => some (Instr.index t (ev ρ x) (ev ρ i))
  | .lookup t x i ok => some (Instr.lookup t (ev ρ x) (ev ρ i) ok)
  | .mapEntry t m k => some (Instr.mapEntry t (ev ρ m) (ev ρ k))
  | .range t x => some (Instr.range t (ev ρ x))
  | .next it s => some (Instr.next (ev ρ it) s o.type)
  | .entry it => some (Instr.entry (ev ρ it))
  | .typeAssert x t u ok => some (Instr.typeAssert (ev ρ x) t u ok)
  | .extract x i => some (Instr.extract (ev ρ x) i)
  | .panic x => some (Instr.panic (ev ρ x))
  | _ => none

theorem map_ev (ρ : Env) (r : Option Operand) : (match r with | some x => some (ev ρ x) | none => none) = r.map (ev ρ) := by cases r <;> rfl
theorem semOf_spec {ρ : Env} {o : Oper} {s : Sem Value} (h : semOf ρ o = some s) : execOp (ev ρ) o = s.bind fun v => .pure (.value v) := by
  unfold semOf at h
  unfold execOp
  cases hop : o.op with
  | binOp op t x y u =>
    simp only [hop] at h ⊢
    cases op <;> simp only [Option.some.injEq] at h <;> subst h <;> rfl
  | makeFunc fn first cap =>
    simp only [hop, Option.some.injEq] at h ⊢
    rw [← h, argsL_eq, argsL_eq]; rfl
  | build t parts => simp only [hop, Option.some.injEq] at h ⊢; rw [← h, partsL_eq]; rfl
  | buildSlice t n parts => simp only [hop, Option.some.injEq] at h ⊢; rw [← h, partsL_eq]; rfl
  | makeMap t r => simp only [hop, Option.some.injEq, map_ev] at h ⊢; rw [← h]; rfl
  | slice t x lo hi mx => simp only [hop, Option.some.injEq, map_ev] at h ⊢; rw [← h]; rfl
  | _ => simp only [hop] at h ⊢ <;> first | (cases h; done) | (simp only [Option.some.injEq] at h; rw [← h]; rfl)

def unitOf (ρ : Env) (o : Oper) : Option (Sem Unit) :=
  match o.op with
  | .store t a x => some (Instr.storeAt t (ev ρ a) (ev ρ x))
  | .mapUpdate t m k x => some (Instr.mapUpdate t (ev ρ m) (ev ρ k) (ev ρ x))
  | .insert t m k x => some (Instr.mapUpdate t (ev ρ m) (ev ρ k) (ev ρ x))
  | .entryStore t m s x => some (Instr.entryStore t (ev ρ m) (ev ρ s) (ev ρ x))
  | _ => none
theorem unitOf_spec {ρ : Env} {o : Oper} {s : Sem Unit} (h : unitOf ρ o = some s) : execOp (ev ρ) o = s.bind fun _ => .pure .skip := by
  unfold unitOf at h
  unfold execOp
  cases hop : o.op <;> simp only [hop] at h ⊢ <;> first | (cases h; done) | (simp only [Option.some.injEq] at h; rw [← h]; rfl)

/-- A truth value parts the way. -/
def SplitB (x : Bool) (A B : Prop) : Prop := match x with | true => A | false => B
theorem SplitB_mono {x : Bool} {A B A' B' : Prop} (ha : A → A') (hb : B → B') (h : SplitB x A B) : SplitB x A' B' := by cases x <;> first | exact ha h | exact hb h
theorem SplitB_mk {x : Bool} {A B : Prop} (ha : x = true → A) (hb : x = false → B) : SplitB x A B := by cases x <;> first | exact ha rfl | exact hb rfl
def CondV (v : Value) (A B : Prop) : Prop := match v with | .bool b => SplitB b A B | _ => False
theorem CondV_mono {v : Value} {A B A' B' : Prop} (ha : A → A') (hb : B → B') (h : CondV v A B) : CondV v A' B' := by
  cases v <;> first | exact SplitB_mono ha hb h | exact h.elim
theorem run_pick {P : Program} {ρ : Operand → Value} {o : Oper} {c a b : Operand} (h : o.op = .pick c a b) {x : Bool} (hc : ρ c = .bool x) (w : World) : (execOp ρ o).run P w = .ok (.value (if x = true then ρ a else ρ b)) w := by
  unfold execOp
  rw [h]
  dsimp only
  rw [hc]
  rfl

/-- What a nil check does. -/
def nilS (v : Value) : Sem Next :=
  match v with
  | .pointer none | .nilIface | .nilFunc => runtimePanic .nilDeref
  | .func (.method name) first captured =>
    match (first[0]? : Option Value) with
    | some .nilIface => runtimePanic .nilDeref
    | some (.iface t w) => do
      if (← nilAhead ((← program).types.size + Made.depth) t w name) != some false then
        unsupported (.noEntry "op/nilCheck.the method's receiver behind this interface value is a nil pointer, or cannot be seen to be none, and the arguments act or may panic (ledger 612)")
      pure (.value (.func (.method name) first captured))
    | _ => pure (.value (.func (.method name) first captured))
  | x => pure (.value x)

def opD (P : Program) (ρ : Env) (o : Oper) (w : World) (K : Value → World → Prop) (Kp : List PanicEntry → World → Prop) : Prop :=
  match o.op with
  | .move x => K (ev ρ x) w
  | .assign x => K (ev ρ x) w
  | .pick c a b => CondV (ev ρ c) (K (ev ρ a) w) (K (ev ρ b) w)
  | .nilCheck x => DoN P (nilS (ev ρ x)) w K Kp
  | .call c => match c.callee with
    | .value f => match f with
      | .func g => CallF P g (argsL ρ c.args) w K Kp
      | f => CallV P (ev ρ f) (argsL ρ c.args) w K Kp
    | .builtin b => DoN P (builtin b c.argTypes o.type (constsL c.args) (argsL ρ c.args).toArray) w K Kp
    | .invoke r name => DoN P (callMethod (ev ρ r) name (argsL ρ c.args).toArray) w K Kp
  | _ => match semOf ρ o with
    | some s => Do P s w K Kp
    | none => match unitOf ρ o with
      | some s => DoU P s w (K undef) Kp
      | none => False

theorem opK_eq (P : Program) (ρ : Env) (o : Oper) (w : World) (K : Value → World → Prop) (Kp : List PanicEntry → World → Prop) : opK P ρ o w K Kp ↔ DoN P (execOp (ev ρ) o) w K Kp := by
  have e : opK P ρ o w K Kp = match (execOp (ev ρ) o).run P w with
      | .ok (.value v) w' => K v w'
      | .ok .skip w' => K undef w'
      | .ok (.enter f args) w' => Calls P f args w' (retK K Kp)
      | .ok (.round l f tmps assign body) w' => RoundIn Fence.wide 0 P l f tmps assign body w' (retK K Kp)
      | .halt (.panic v) w' => Kp [{ v, recovered := false }] w'
      | _ => False := by
    unfold opK
    generalize (execOp (ev ρ) o).run P w = r
    cases r with
    | ok n w' =>
      cases n <;> try rfl
      all_goals
        dsimp only
        congr 1
        funext e w''
        cases e <;> rfl
    | halt x w' => cases x <;> rfl
  rw [e]
  exact ⟨fun h => ⟨h⟩, fun h => h.out⟩

theorem CallV_sound {P : Program} {f : Value} {args : List Value} {w : World} {K : Value → World → Prop} {Kp : List PanicEntry → World → Prop} (h : CallV P f args w K Kp) :
    DoN P ((Deferred.ofValue f args.toArray).bind fun d => invoke d.target d.args) w K Kp := by
  unfold CallV at h
  split at h
  · rename_i g first cap
    have := CallF_sound h
    have e : (first.toList ++ args ++ cap.toList).toArray = first ++ args.toArray ++ cap := by simp
    rw [e] at this
    have e2 : ((Deferred.ofValue (.func (.func g) first cap) args.toArray).bind fun d => invoke d.target d.args) = callFunc g (first ++ args.toArray ++ cap) := rfl
    rw [e2]; exact this
  · exact h

theorem opD_sound {P : Program} {ρ : Env} {o : Oper} {w : World} {K : Value → World → Prop} {Kp : List PanicEntry → World → Prop} (h : opD P ρ o w K Kp) : opK P ρ o w K Kp := by
  rw [opK_eq]
  have gen : (match semOf ρ o with | some s => Do P s w K Kp | none => match unitOf ρ o with | some s => DoU P s w (K undef) Kp | none => False) → DoN P (execOp (ev ρ) o) w K Kp := fun h => by
    cases hs : semOf ρ o with
    | some s => rw [hs] at h; rw [semOf_spec hs]; exact DoN_value h
    | none =>
      rw [hs] at h
      cases hu : unitOf ρ o with
      | some s => rw [hu] at h; rw [unitOf_spec hu]; exact DoN_unit h
      | none => rw [hu] at h; exact h.elim
  unfold opD at h
  cases hop : o.op with
  | move x =>
    rw [hop] at h
    have e : execOp (ev ρ) o = .pure (.value (ev ρ x)) := by unfold execOp; rw [hop]; rfl
    rw [e]; exact ⟨h⟩
  | assign x =>
    rw [hop] at h
    have e : execOp (ev ρ) o = .pure (.value (ev ρ x)) := by unfold execOp; rw [hop]; rfl
    rw [e]; exact ⟨h⟩
  | pick c a b =>
    rw [hop] at h
    dsimp only at h
    unfold CondV at h
    split at h
    · rename_i x hx
      refine ⟨?_⟩
      rw [run_pick hop hx]
      cases x <;> exact h
    · exact h.elim
  | nilCheck x =>
    rw [hop] at h
    have e : execOp (ev ρ) o = nilS (ev ρ x) := by unfold execOp; rw [hop]; rfl
    rw [e]; exact h
  | call c =>
    rw [hop] at h
    have hex : execOp (ev ρ) o = (resolve (ev ρ) c o.type).bind fun d => invoke d.target d.args := by unfold execOp; rw [hop]; rfl
    rw [hex]
    dsimp only at h
    cases hc : c.callee with
    | value f =>
      rw [hc] at h
      have hr : resolve (ev ρ) c o.type = Deferred.ofValue (ev ρ f) (argsL ρ c.args).toArray := by unfold resolve; simp only [hc, argsL_eq]
      rw [hr]
      cases f with
      | func g =>
        have := CallF_sound h
        have e : (Deferred.ofValue (ev ρ (.func g)) (argsL ρ c.args).toArray).bind (fun d => invoke d.target d.args) = callFunc g (argsL ρ c.args).toArray := by
          show callFunc g ((#[] ++ (argsL ρ c.args).toArray) ++ #[]) = _
          simp
        rw [e]; exact this
      | tmp t => exact CallV_sound h
      | const v => exact CallV_sound h
      | global g => exact CallV_sound h
    | builtin b =>
      rw [hc] at h
      have hr : resolve (ev ρ) c o.type = pure { target := .builtin b c.argTypes o.type (constsL c.args), args := (argsL ρ c.args).toArray } := by unfold resolve; simp only [hc, argsL_eq, constsL_eq]; rfl
      rw [hr]
      have e : ((pure { target := .builtin b c.argTypes o.type (constsL c.args), args := (argsL ρ c.args).toArray } : Sem Deferred).bind fun d => invoke d.target d.args) = builtin b c.argTypes o.type (constsL c.args) (argsL ρ c.args).toArray := rfl
      rw [e]; exact h
    | invoke r name =>
      rw [hc] at h
      have hr : resolve (ev ρ) c o.type = pure { target := .fn (.method name) #[], args := #[ev ρ r] ++ (argsL ρ c.args).toArray } := by unfold resolve; simp only [hc, argsL_eq]
      rw [hr]
      have e : invoke (.fn (.method name) #[]) (#[ev ρ r] ++ (argsL ρ c.args).toArray) = callMethod (ev ρ r) name (argsL ρ c.args).toArray := by
        unfold invoke
        simp
      have e2 : ((pure { target := .fn (.method name) #[], args := #[ev ρ r] ++ (argsL ρ c.args).toArray } : Sem Deferred).bind fun d => invoke d.target d.args) = callMethod (ev ρ r) name (argsL ρ c.args).toArray := e
      rw [e2]; exact h
  | _ => rw [hop] at h; exact gen h

theorem Do_mono {P : Program} {s : Sem Value} {w : World} {K K' : Value → World → Prop} {Kp Kp' : List PanicEntry → World → Prop} (hk : ∀ v w, K v w → K' v w) (hp : ∀ c w, Kp c w → Kp' c w) (h : Do P s w K Kp) : Do P s w K' Kp' := by
  obtain ⟨h⟩ := h
  refine ⟨?_⟩
  generalize s.run P w = r at *
  cases r with
  | ok v w' => exact hk _ _ h
  | halt x w' => cases x <;> first | exact hp _ _ h | exact h.elim
theorem DoU_mono {P : Program} {s : Sem Unit} {w : World} {K K' : World → Prop} {Kp Kp' : List PanicEntry → World → Prop} (hk : ∀ w, K w → K' w) (hp : ∀ c w, Kp c w → Kp' c w) (h : DoU P s w K Kp) : DoU P s w K' Kp' := by
  obtain ⟨h⟩ := h
  refine ⟨?_⟩
  generalize s.run P w = r at *
  cases r with
  | ok v w' => exact hk _ h
  | halt x w' => cases x <;> first | exact hp _ _ h | exact h.elim
theorem retK_mono {K K' : Value → World → Prop} {Kp Kp' : List PanicEntry → World → Prop} (hk : ∀ v w, K v w → K' v w) (hp : ∀ c w, Kp c w → Kp' c w) (e : Ending) (w : World) (h : retK K Kp e w) : retK K' Kp' e w := by
  cases e <;> first | exact hk _ _ h | exact hp _ _ h | exact h
theorem DoN_mono {P : Program} {s : Sem Next} {w : World} {K K' : Value → World → Prop} {Kp Kp' : List PanicEntry → World → Prop} (hk : ∀ v w, K v w → K' v w) (hp : ∀ c w, Kp c w → Kp' c w) (h : DoN P s w K Kp) : DoN P s w K' Kp' := by
  obtain ⟨h⟩ := h
  refine ⟨?_⟩
  generalize s.run P w = r at *
  cases r with
  | ok n w' => cases n <;> first | exact hk _ _ h | exact h.mono (retK_mono hk hp) | exact RoundIn.mono h (retK_mono hk hp) | exact h.elim
  | halt x w' => cases x <;> first | exact hp _ _ h | exact h.elim
theorem CallF_mono {P : Program} {f : FuncId} {args : List Value} {w : World} {K K' : Value → World → Prop} {Kp Kp' : List PanicEntry → World → Prop} (hk : ∀ v w, K v w → K' v w) (hp : ∀ c w, Kp c w → Kp' c w) (h : CallF P f args w K Kp) : CallF P f args w K' Kp' := by
  unfold CallF at *
  split <;> rename_i hb <;> rw [hb] at h
  · exact ⟨h.out.mono (retK_mono hk hp)⟩
  · exact DoN_mono hk hp h
theorem CallV_mono {P : Program} {f : Value} {args : List Value} {w : World} {K K' : Value → World → Prop} {Kp Kp' : List PanicEntry → World → Prop} (hk : ∀ v w, K v w → K' v w) (hp : ∀ c w, Kp c w → Kp' c w) (h : CallV P f args w K Kp) : CallV P f args w K' Kp' := by
  unfold CallV at *
  split at h
  · exact CallF_mono hk hp h
  · exact DoN_mono hk hp h
theorem opD_mono {P : Program} {ρ : Env} {o : Oper} {w : World} {K K' : Value → World → Prop} {Kp Kp' : List PanicEntry → World → Prop}
    (hk : ∀ v w, K v w → K' v w) (hp : ∀ c w, Kp c w → Kp' c w) (h : opD P ρ o w K Kp) : opD P ρ o w K' Kp' := by
  have gen : (match semOf ρ o with | some s => Do P s w K Kp | none => match unitOf ρ o with | some s => DoU P s w (K undef) Kp | none => False) →
      (match semOf ρ o with | some s => Do P s w K' Kp' | none => match unitOf ρ o with | some s => DoU P s w (K' undef) Kp' | none => False) := fun h => by
    cases hs : semOf ρ o with
    | some s => rw [hs] at h; exact Do_mono hk hp h
    | none =>
      rw [hs] at h
      cases hu : unitOf ρ o with
      | some s => rw [hu] at h; exact DoU_mono (hk undef) hp h
      | none => rw [hu] at h; exact h.elim
  unfold opD at *
  cases hop : o.op with
  | move x => rw [hop] at h; exact hk _ _ h
  | assign x => rw [hop] at h; exact hk _ _ h
  | pick c a b => rw [hop] at h; exact CondV_mono (hk _ _) (hk _ _) h
  | nilCheck x => rw [hop] at h; exact DoN_mono hk hp h
  | call c =>
    rw [hop] at h
    dsimp only at *
    cases hc : c.callee with
    | value f =>
      rw [hc] at h
      cases f with
      | func g => exact CallF_mono hk hp h
      | tmp t => exact CallV_mono hk hp h
      | const v => exact CallV_mono hk hp h
      | global g => exact CallV_mono hk hp h
    | builtin b => rw [hc] at h; exact DoN_mono hk hp h
    | invoke r name => rw [hc] at h; exact DoN_mono hk hp h
  | _ => rw [hop] at h; exact gen h

/-- A quiet operation in a drawn region: its value, the same in all worlds that may be. -/
inductive PureQ (P : Program) (A : World → Prop) (s : Sem Value) (K : Value → Prop) : Prop
  | mk (v : Value) (run : ∀ w, A w → s.run P w = .ok v w) (then_ : K v)
inductive PureN (P : Program) (A : World → Prop) (s : Sem Next) (K : Value → Prop) : Prop
  | mk (v : Value) (run : ∀ w, A w → s.run P w = .ok (.value v) w) (then_ : K v)
def opQ (P : Program) (A : World → Prop) (ρ : Env) (o : Oper) (K : Value → Prop) : Prop :=
  match o.op with
  | .move x => K (ev ρ x)
  | .assign x => K (ev ρ x)
  | .pick c a b => CondV (ev ρ c) (K (ev ρ a)) (K (ev ρ b))
  | .nilCheck x => PureN P A (nilS (ev ρ x)) K
  | .call c => match c.callee with
    | .builtin b => PureN P A (builtin b c.argTypes o.type (constsL c.args) (argsL ρ c.args).toArray) K
    | _ => False
  | _ => match semOf ρ o with
    | some s => PureQ P A s K
    | none => False
theorem opQ_sound {P : Program} {A : World → Prop} {ρ : Env} {o : Oper} {K : Value → Prop} (h : opQ P A ρ o K) : ∃ v, (∀ w, A w → (execOp (ev ρ) o).run P w = .ok (.value v) w) ∧ K v := by
  have gen : (match semOf ρ o with | some s => PureQ P A s K | none => False) → ∃ v, (∀ w, A w → (execOp (ev ρ) o).run P w = .ok (.value v) w) ∧ K v := fun h => by
    cases hs : semOf ρ o with
    | some s =>
      rw [hs] at h
      obtain ⟨v, hv, hK⟩ := h
      exact ⟨v, fun w hw => by rw [semOf_spec hs, run_bind, hv w hw]; rfl, hK⟩
    | none => rw [hs] at h; exact h.elim
  unfold opQ at h
  cases hop : o.op with
  | move x => rw [hop] at h; exact ⟨_, fun w _ => by unfold execOp; rw [hop]; rfl, h⟩
  | assign x => rw [hop] at h; exact ⟨_, fun w _ => by unfold execOp; rw [hop]; rfl, h⟩
  | pick c a b =>
    rw [hop] at h
    dsimp only at h
    unfold CondV at h
    split at h
    · rename_i x hx
      exact ⟨_, fun w _ => run_pick hop hx w, by cases x <;> exact h⟩
    · exact h.elim
  | nilCheck x =>
    rw [hop] at h
    obtain ⟨v, hv, hK⟩ := h
    exact ⟨v, fun w hw => by unfold execOp; rw [hop]; exact hv w hw, hK⟩
  | call c =>
    rw [hop] at h
    dsimp only at h
    cases hc : c.callee with
    | builtin b =>
      rw [hc] at h
      obtain ⟨v, hv, hK⟩ := h
      have hex : execOp (ev ρ) o = builtin b c.argTypes o.type (constsL c.args) (argsL ρ c.args).toArray := by
        have hex : execOp (ev ρ) o = (resolve (ev ρ) c o.type).bind fun d => invoke d.target d.args := by unfold execOp; rw [hop]; rfl
        have hr : resolve (ev ρ) c o.type = pure { target := .builtin b c.argTypes o.type (constsL c.args), args := (argsL ρ c.args).toArray } := by unfold resolve; simp only [hc, argsL_eq, constsL_eq]; rfl
        rw [hex, hr]; rfl
      exact ⟨v, fun w hw => by rw [hex]; exact hv w hw, hK⟩
    | value f => rw [hc] at h; exact h.elim
    | invoke r name => rw [hc] at h; exact h.elim
  | _ => rw [hop] at h; exact gen h
theorem opQ_mono {P : Program} {A : World → Prop} {ρ : Env} {o : Oper} {K K' : Value → Prop} (hk : ∀ v, K v → K' v) (h : opQ P A ρ o K) : opQ P A ρ o K' := by
  have q1 : ∀ s, PureQ P A s K → PureQ P A s K' := fun s ⟨v, a, b⟩ => ⟨v, a, hk _ b⟩
  have q2 : ∀ s, PureN P A s K → PureN P A s K' := fun s ⟨v, a, b⟩ => ⟨v, a, hk _ b⟩
  have gen : (match semOf ρ o with | some s => PureQ P A s K | none => False) → (match semOf ρ o with | some s => PureQ P A s K' | none => False) := fun h => by
    cases hs : semOf ρ o with
    | some s => rw [hs] at h; exact q1 _ h
    | none => rw [hs] at h; exact h.elim
  unfold opQ at *
  cases hop : o.op with
  | move x => rw [hop] at h; exact hk _ h
  | assign x => rw [hop] at h; exact hk _ h
  | pick c a b => rw [hop] at h; exact CondV_mono (hk _) (hk _) h
  | nilCheck x => rw [hop] at h; exact q2 _ h
  | call c =>
    rw [hop] at h
    dsimp only at *
    cases hc : c.callee with
    | builtin b => rw [hc] at h; exact q2 _ h
    | value f => rw [hc] at h; exact h.elim
    | invoke r name => rw [hc] at h; exact h.elim
  | _ => rw [hop] at h; exact gen h
/-- Is the operation wanted? (v: what the guard looks at.) -/
def wantV (v : Value) (b : Bool) : Bool := match v with | .bool x => x == b | _ => false
def guardSlot (ops : List Oper) (g : Nat) : Option Nat := (ops[g]?).bind (·.dst)
def wantE (ops : List Oper) (o : Oper) (ρ : Env) : Bool :=
  match o.guard with
  | none => true
  | some (g, b) => match guardSlot ops g with | some d => wantV (ρ d) b | none => false

theorem wanted_eq {ops : List Oper} {o : Oper} {a : Act} {ρ : Env} (h : ∀ d, (∃ g b, o.guard = some (g, b) ∧ guardSlot ops g = some d) → a.tmps.getD d undef = ρ d) :
    Region.wanted o (yielded ops.toArray a.tmps) = wantE ops o ρ := by
  unfold Region.wanted wantE
  cases hg : o.guard with
  | none => rfl
  | some gb =>
    obtain ⟨g, b⟩ := gb
    simp only [yielded, List.getElem?_toArray]
    have hs : (ops[g]?).bind (·.dst) = guardSlot ops g := rfl
    cases hd : guardSlot ops g with
    | none => rw [hs, hd]; simp
    | some d =>
      have := h d ⟨g, b, hg, hd⟩
      rw [hs, hd]
      simp only [Option.bind_some]
      rw [← this]
      rcases Nat.lt_or_ge d a.tmps.size with hlt | hge
      · have e1 : a.tmps[d]? = some a.tmps[d] := Array.getElem?_eq_getElem hlt
        have e2 : a.tmps.getD d undef = a.tmps[d] := by simp [Array.getD, hlt]
        rw [e1, e2]
        cases a.tmps[d] <;> simp [wantV]
      · have e1 : a.tmps[d]? = none := Array.getElem?_eq_none hge
        have e2 : a.tmps.getD d undef = undef := by simp [Array.getD, Nat.not_lt.2 hge]
        rw [e1, e2]
        simp [wantV, undef]

/-! ### Operations in order -/
def vcOps (P : Program) (ops : List Oper) (Q : Exit → Env → World → Prop) : List Oper → Env → World → Prop
  | [], ρ, w => Q .normal ρ w
  | o :: rest, ρ, w =>
    match o.guard with
    | none => opD P ρ o w (fun v w' => vcOps P ops Q rest (updO ρ o.dst v) w') (fun c w' => Q (.panic c) ρ w')
    | some _ => if wantE ops o ρ = true then opD P ρ o w (fun v w' => vcOps P ops Q rest (updO ρ o.dst v) w') (fun c w' => Q (.panic c) ρ w')
      else vcOps P ops Q rest (updO ρ o.dst undef) w

theorem vcOps_sound {P : Program} {ops : List Oper} {n : Nat} {DD : List Deferred} {Q : Exit → Env → World → Prop} {Q' : Exit → Act → World → Prop}
    (hQ : ∀ e a ρ w, Agrees n DD a ρ → Q e ρ w → Q' e a w) : ∀ (l : List Oper) (a : Act) (ρ : Env) (w : World), l.all (dstOk n) = true → Agrees n DD a ρ →
    vcOps P ops Q l ρ w → wpListIn Fence.wide 0 P ops.toArray Q' l a w
  | [], a, ρ, w, _, ha, h => hQ _ _ _ _ ha h
  | o :: rest, a, ρ, w, hd, ha, h => by
    simp only [List.all_cons, Bool.and_eq_true] at hd
    have hdst : ∀ x, o.dst = some x → x < n := fun x hx => by have := hd.1; simp [dstOk, hx] at this; exact this
    have hw : Region.wanted o (yielded ops.toArray a.tmps) = wantE ops o ρ := wanted_eq fun d _ => ha.at_ d
    have hrun : opD P ρ o w (fun v w' => vcOps P ops Q rest (updO ρ o.dst v) w') (fun c w' => Q (.panic c) ρ w') → o.wpIn Fence.wide 0 P a w (wpListIn Fence.wide 0 P ops.toArray Q' rest) Q' :=
      fun hop => opK_wp (by rw [ha.eval_eq]) (fun v w' hk => vcOps_sound hQ rest _ _ _ hd.2 (ha.put hdst v) hk) (fun c w' hp => hQ _ _ _ _ ha hp) (opD_sound hop)
    unfold wpListIn
    rw [hw]
    cases hg : o.guard with
    | none =>
      have : wantE ops o ρ = true := by simp [wantE, hg]
      rw [if_pos this]
      simp only [vcOps, hg] at h
      exact hrun h
    | some gb =>
      simp only [vcOps, hg] at h
      by_cases hx : wantE ops o ρ = true
      · rw [if_pos hx] at h ⊢
        exact hrun h
      · rw [if_neg hx] at h ⊢
        exact ⟨fun _ _ => trivial, vcOps_sound hQ rest _ _ _ hd.2 (ha.put hdst undef) h⟩

/-! ### A region whose order is drawn -/
/-- Operations whose value hangs on their operands and on old memory alone. -/
def quietOp : Op → Bool
  | .move _ | .assign _ | .pick .. | .load .. | .nilCheck _ | .binOp .. | .unOp .. | .makeInterface .. | .slice .. | .fieldAddr .. | .field .. | .indexAddr .. | .index .. | .lookup .. | .extract .. | .typeAssert .. | .build .. | .makeFunc .. => true
  | .call { callee := .builtin b, .. } => match b with | .len | .cap | .min | .max | .unsafeSliceData => true | _ => false
  | _ => false

theorem about_quiet {P : Program} {ρ : Operand → Value} {o : Oper} (h : quietOp o.op = true) (w : World) : o.about P w ρ = none := by
  unfold Oper.about
  cases hop : o.op with
  | call c =>
    dsimp only
    rw [hop] at h
    obtain ⟨callee, args, argTypes⟩ := c
    cases callee with
    | builtin b => unfold resolve; rfl
    | value f => cases h
    | invoke r name => cases h
  | _ => rfl

def preB (ops : List Oper) : Array Nat := Region.before ops.toArray
def pre (bef : Array Nat) (j i : Nat) : Bool := (bef.getD i 0).testBit j

/-- What is known of the values that were made so far, in a world. -/
def Facts (Φ : Nat → Value → World → Prop) : List (Nat × Value) → World → Prop
  | [], _ => True
  | (j, v) :: F, w => Φ j v w ∧ Facts Φ F w
def FactsB (bef : Array Nat) (i : Nat) (Φ : Nat → Value → World → Prop) : List (Nat × Value) → World → Prop
  | [], _ => True
  | (j, v) :: F, w => if pre bef j i = true then Φ j v w ∧ FactsB bef i Φ F w else FactsB bef i Φ F w

/-- Is an operation one that a guard looks at? -/
def isGuard (ops : List Oper) (i : Nat) : Bool := ops.any fun o => match o.guard with | some (g, _) => Nat.beq g i | none => false
def isTmp (x : Operand) (t : Nat) : Bool := match x with | .tmp u => Nat.beq u t | _ => false
/-- Does a slot's value come to what a guard looks at, through moves and picks? -/
def flowsTo (ops : List Oper) : Nat → Nat → Bool
  | 0, _ => false
  | n + 1, t => (List.range ops.length).any fun j => match ops[j]? with
    | some o => (match o.op with | .move x => isTmp x t | .pick _ x y => isTmp x t || isTmp y t | _ => false) && (isGuard ops j || (match o.dst with | some d => flowsTo ops n d | none => false))
    | none => false
/-- .. or is its value moved to what one looks at? -/
def movedGuard (ops : List Oper) (i : Nat) : Bool := isGuard ops i || (match ops[i]? with
  | some p => (match p.dst with | some d => flowsTo ops 3 d | none => false)
  | none => false)
def Bq (ops : List Oper) (i : Nat) (v : Value) : Prop := movedGuard ops i = true → ∃ b, v = .bool b

def rg (P : Program) (ops : List Oper) (bef : Array Nat) (E : World → World → Prop) (Φ : Nat → Value → World → Prop) (w0 : World) (Q : Env → World → Prop) : List Oper → Nat → Env → List (Nat × Value) → Prop
  | [], _, ρ, F => ∀ w, E w0 w → Facts Φ F w → Q ρ w
  | o :: rest, i, ρ, F =>
    if wantE ops o ρ = true then
      match quietOp o.op with
      | true => opQ P (fun w => E w0 w ∧ FactsB bef i Φ F w) ρ o (fun v => rg P ops bef E Φ w0 Q rest (i + 1) (updO ρ o.dst v) F)
      | false => (∀ w, E w0 w → FactsB bef i Φ F w → opD P ρ o w (fun v w' => E w w' ∧ Φ i v w' ∧ Bq ops i v) (fun _ _ => False)) ∧ ∀ v, Bq ops i v → rg P ops bef E Φ w0 Q rest (i + 1) (updO ρ o.dst v) ((i, v) :: F)
    else rg P ops bef E Φ w0 Q rest (i + 1) (updO ρ o.dst undef) F

/-- The slots at which an operation looks. -/
def looks (ops : List Oper) (o : Oper) : List Nat :=
  (o.op.operands.toList.filterMap fun | .tmp t => some t | _ => none) ++ (match o.guard with | some (g, _) => (guardSlot ops g).toList | none => [])
def names (ops : List Oper) (o : Oper) : List Nat := o.dst.toList ++ looks ops o
def isSelect : Op → Bool | .select .. => true | _ => false
/-- Whatever looks at a slot, or writes it, stands in order with whoever writes it; the edges go back; nothing is a select; the last ones behind 'h' come behind all others, in order. -/
def rgOk (ops : List Oper) (bef : Array Nat) (h : Nat) (d : Nat := 0) : Bool :=
  (List.range ops.length).all fun i => match ops[i]? with
    | none => true
    | some o =>
      !isSelect o.op &&
      (o.after.all fun e => !Region.binds .any e || (Nat.blt e.on i && pre bef e.on i)) &&
      (List.range i).all fun j => match ops[j]? with
        | none => true
        | some p => (Nat.blt i h || Nat.blt j d || pre bef j i) && (pre bef j i || !(((p.dst.toList.any fun d => (names ops o).contains d)) || (o.dst.toList.any fun d => (names ops p).contains d)))
/-- What is before, is before by edges. -/
def befOk (ops : List Oper) (bef : Array Nat) : Bool :=
  (List.range ops.length).all fun i => (List.range ops.length).all fun j => !pre bef j i || (match ops[i]? with
    | none => false
    | some o => o.after.any fun e => Region.binds .any e && (e.on == j || pre bef j e.on))

section
variable {P : Program} {ops : List Oper} {bef : Array Nat} {h : Nat}

theorem rgOk_spec {d : Nat} (hk : rgOk ops bef h d = true) {i : Nat} {o : Oper} (hi : ops[i]? = some o) :
    isSelect o.op = false ∧ (∀ e ∈ o.after, Region.binds .any e = true → e.on < i ∧ pre bef e.on i = true) ∧
    ∀ j p, j < i → ops[j]? = some p → (h ≤ i → d ≤ j → pre bef j i = true) ∧ ((∀ d, p.dst = some d → d ∈ names ops o → pre bef j i = true) ∧ (∀ d, o.dst = some d → d ∈ names ops p → pre bef j i = true)) := by
  unfold rgOk at hk
  rw [List.all_eq_true] at hk
  have hlt : i < ops.length := (List.getElem?_eq_some_iff.1 hi).1
  have h1 := hk i (List.mem_range.2 hlt)
  simp only [hi, Bool.and_eq_true, Bool.not_eq_true'] at h1
  obtain ⟨⟨hs, he⟩, hj⟩ := h1
  refine ⟨hs, fun e hem hb => ?_, fun j p hji hp => ?_⟩
  · rw [Array.all_eq_true_iff_forall_mem] at he
    have := he e hem
    simp only [hb, Bool.not_true, Bool.false_or, Bool.and_eq_true] at this
    exact ⟨by simpa using this.1, this.2⟩
  · rw [List.all_eq_true] at hj
    have h2 := hj j (List.mem_range.2 hji)
    simp only [hp, Bool.and_eq_true, Bool.or_eq_true, Bool.not_eq_true'] at h2
    obtain ⟨ha, hb⟩ := h2
    refine ⟨fun hhi hdj => ha.resolve_left (by simp; omega), ?_, ?_⟩
    · intro d hd hm
      refine hb.resolve_right fun hx => ?_
      rw [Bool.or_eq_false_iff] at hx
      have := hx.1
      simp [hd] at this
      exact this hm
    · intro d hd hm
      refine hb.resolve_right fun hx => ?_
      rw [Bool.or_eq_false_iff] at hx
      have := hx.2
      simp [hd] at this
      exact this hm

theorem befOk_spec (hb : befOk ops bef = true) {i j : Nat} (hi : i < ops.length) (hj : j < ops.length) (hp : pre bef j i = true) :
    ∃ o, ops[i]? = some o ∧ ∃ e ∈ o.after, Region.binds .any e = true ∧ (e.on = j ∨ pre bef j e.on = true) := by
  unfold befOk at hb
  rw [List.all_eq_true] at hb
  have h1 := hb i (List.mem_range.2 hi)
  rw [List.all_eq_true] at h1
  have h2 := h1 j (List.mem_range.2 hj)
  simp only [hp, Bool.not_true, Bool.false_or] at h2
  cases ho : ops[i]? with
  | none => simp [ho] at h2
  | some o =>
    simp only [ho] at h2
    obtain ⟨x, hx, he⟩ := Array.any_eq_true.1 h2
    have hem : o.after[x] ∈ o.after := Array.getElem_mem hx
    generalize o.after[x] = e at *
    simp only [Bool.and_eq_true, Bool.or_eq_true, beq_iff_eq] at he
    exact ⟨o, rfl, e, hem, he.1, he.2⟩

/-- The environment behind the first 'k' operations in the text's order, of those that are done. -/
def lexEnv (ops : List Oper) (D : Nat → Bool) (vs : Nat → Value) (ρ : Env) : Nat → Env
  | 0 => ρ
  | k + 1 => if D k = true then updO (lexEnv ops D vs ρ k) ((ops[k]?).bind (·.dst)) (vs k) else lexEnv ops D vs ρ k
def allD : Nat → Bool := fun _ => true

theorem lexEnv_all (vs : Nat → Value) (ρ : Env) (k : Nat) : lexEnv ops allD vs ρ (k + 1) = updO (lexEnv ops allD vs ρ k) ((ops[k]?).bind (·.dst)) (vs k) := if_pos rfl

theorem updO_ne {ρ : Env} {d : Option Nat} {v : Value} {t : Nat} (hne : d ≠ some t) : updO ρ d v t = ρ t := by
  cases d with
  | none => rfl
  | some d => exact upd_ne _ _ fun e => hne (by rw [e])

theorem lexEnv_congr {D : Nat → Bool} {vs us : Nat → Value} {ρ : Env} {t : Nat} : ∀ k, (∀ j, j < k → D j = true → (ops[j]?).bind (·.dst) = some t → vs j = us j) →
    lexEnv ops D vs ρ k t = lexEnv ops D us ρ k t
  | 0, _ => rfl
  | k + 1, hh => by
    have ih := lexEnv_congr (D := D) (vs := vs) (us := us) (ρ := ρ) (t := t) k fun j hj => hh j (by omega)
    simp only [lexEnv]
    split
    · rename_i hD
      by_cases e : (ops[k]?).bind (·.dst) = some t
      · rw [e]; simp only [updO, upd_same]; exact hh k (by omega) hD e
      · rw [updO_ne e, updO_ne e]; exact ih
    · exact ih

/-- Those that are done are closed under what must be before. -/
def Closed (ops : List Oper) (bef : Array Nat) (D : Nat → Bool) : Prop := ∀ i j, i < ops.length → j < ops.length → D i = true → pre bef j i = true → D j = true

/-- At the slots that operation i looks at, what is done gives the text's order's environment. -/
theorem lexEnv_looks {d : Nat} (hk : rgOk ops bef h d = true) {D : Nat → Bool} (hc : Closed ops bef D) {vs : Nat → Value} {ρ : Env} {i : Nat} {o : Oper} (hi : ops[i]? = some o)
    (hpre : ∀ j, j < ops.length → pre bef j i = true → D j = true) (hD : D i = false) {t : Nat} (ht : t ∈ names ops o) :
    ∀ k, i ≤ k → k ≤ ops.length → lexEnv ops D vs ρ k t = lexEnv ops allD vs ρ i t := by
  have hlt : i < ops.length := (List.getElem?_eq_some_iff.1 hi).1
  have low : ∀ m, m ≤ i → lexEnv ops D vs ρ m t = lexEnv ops allD vs ρ m t := by
    intro m
    induction m with
    | zero => intro _; rfl
    | succ m ih =>
      intro hm
      have ih := ih (by omega)
      rw [lexEnv_all]
      simp only [lexEnv]
      split
      · by_cases e : (ops[m]?).bind (·.dst) = some t
        · rw [e]; simp only [updO, upd_same]
        · rw [updO_ne e, updO_ne e]; exact ih
      · rename_i hDm
        by_cases e : (ops[m]?).bind (·.dst) = some t
        · exfalso
          cases hp : ops[m]? with
          | none => simp [hp] at e
          | some p =>
            rw [hp] at e
            have := ((rgOk_spec hk hi).2.2 m p (by omega) hp).2.1 t e ht
            exact hDm (hpre m (List.getElem?_eq_some_iff.1 hp).1 this)
        · rw [updO_ne e]; exact ih
  intro k
  induction k with
  | zero => intro h0 _; have : i = 0 := by omega
            subst this; rfl
  | succ k ih =>
    intro hik hkn
    rcases Nat.lt_or_ge i (k + 1) with h1 | h1
    · have hik' : i ≤ k := by omega
      have ih := ih hik' (by omega)
      simp only [lexEnv]
      split
      · rename_i hDk
        by_cases e : (ops[k]?).bind (·.dst) = some t
        · exfalso
          rcases Nat.lt_or_ge i k with h2 | h2
          · cases hp : ops[k]? with
            | none => simp [hp] at e
            | some p =>
              rw [hp] at e
              have := ((rgOk_spec hk hp).2.2 i o h2 hi).2.2 t e ht
              have := hc k i (by omega) hlt hDk this
              simp [hD] at this
          · have : i = k := by omega
            subst this; simp [hD] at hDk
        · rw [updO_ne e]; exact ih
      · exact ih
    · have : i = k + 1 := by omega
      subst this
      exact low _ (Nat.le_refl _)
end

section
variable {P : Program} {ops : List Oper} {bef : Array Nat} {h : Nat} {E : World → World → Prop} {Φ : Nat → Value → World → Prop} {w0 : World} {ρ0 : Env}

theorem execOp_looks {d : Nat} (hk : rgOk ops bef h d = true) {i : Nat} {o : Oper} (hi : ops[i]? = some o) {ρ ρ' : Operand → Value} (hc : ∀ g, ρ (.global g) = ρ' (.global g)) (hv : ∀ v, ρ (.const v) = ρ' (.const v)) (hf : ∀ f, ρ (.func f) = ρ' (.func f))
    (ht : ∀ t ∈ looks ops o, ρ (.tmp t) = ρ' (.tmp t)) : execOp ρ o = execOp ρ' o := by
  refine execOp_congr o (fun cs b e => ?_) fun x hx => ?_
  · have := (rgOk_spec hk hi).1
    rw [e] at this
    simp [isSelect] at this
  · cases x with
    | tmp t => exact ht t (List.mem_append_left _ (List.mem_filterMap.2 ⟨.tmp t, by simpa using hx, rfl⟩))
    | const v => exact hv v
    | global g => exact hc g
    | func f => exact hf f

theorem execOp_env {d : Nat} (hk : rgOk ops bef h d = true) {i : Nat} {o : Oper} (hi : ops[i]? = some o) {ρ ρ' : Env} (ht : ∀ t ∈ looks ops o, ρ t = ρ' t) : execOp (ev ρ) o = execOp (ev ρ') o :=
  execOp_looks hk hi (fun _ => rfl) (fun _ => rfl) (fun _ => rfl) ht

theorem wantE_env {o : Oper} {ρ ρ' : Env} (ht : ∀ t ∈ looks ops o, ρ t = ρ' t) : wantE ops o ρ = wantE ops o ρ' := by
  unfold wantE
  cases hg : o.guard with
  | none => rfl
  | some gb =>
    obtain ⟨g, b⟩ := gb
    dsimp only
    cases hd : guardSlot ops g with
    | none => rfl
    | some d =>
      dsimp only
      rw [ht d (List.mem_append_right _ (by simp [hg, hd]))]

theorem opK_env {d : Nat} (hk : rgOk ops bef h d = true) {i : Nat} {o : Oper} (hi : ops[i]? = some o) {ρ ρ' : Env} (ht : ∀ t ∈ looks ops o, ρ t = ρ' t) {w : World} {K : Value → World → Prop} {Kp : List PanicEntry → World → Prop}
    (hh : opK P ρ o w K Kp) : opK P ρ' o w K Kp := by
  unfold opK at *
  rw [← execOp_env hk hi ht]
  exact hh

def isGrow (ops : List Oper) (ρ0 : Env) (vs : Nat → Value) (j : Nat) : Prop := ∃ p, ops[j]? = some p ∧ wantE ops p (lexEnv ops allD vs ρ0 j) = true ∧ quietOp p.op = false

open Classical in
noncomputable def Fl (ops : List Oper) (ρ0 : Env) (u : Nat → Value) : Nat → List (Nat × Value)
  | 0 => []
  | k + 1 => if isGrow ops ρ0 u k then (k, u k) :: Fl ops ρ0 u k else Fl ops ρ0 u k

open Classical in
theorem Fl_succ (u : Nat → Value) (k : Nat) : Fl ops ρ0 u (k + 1) = if isGrow ops ρ0 u k then (k, u k) :: Fl ops ρ0 u k else Fl ops ρ0 u k := rfl

theorem Fl_none {d : Nat} {u : Nat → Value} (hq : ∀ i o, i < d → ops[i]? = some o → quietOp o.op = true) : ∀ k, k ≤ d → Fl ops ρ0 u k = []
  | 0, _ => rfl
  | k + 1, hk => by
    rw [Fl_succ, if_neg fun hg => ?_, Fl_none hq k (by omega)]
    obtain ⟨p, hp, _, hpq⟩ := hg
    rw [hq k p (by omega) hp] at hpq; cases hpq

theorem facts_of {u : Nat → Value} {w : World} : ∀ k, (∀ j, j < k → isGrow ops ρ0 u j → Φ j (u j) w) → Facts Φ (Fl ops ρ0 u k) w
  | 0, _ => trivial
  | k + 1, hh => by
    unfold Fl
    split
    · rename_i hg
      exact ⟨hh k (by omega) hg, facts_of k fun j hj => hh j (by omega)⟩
    · exact facts_of k fun j hj => hh j (by omega)
theorem factsB_of {u : Nat → Value} {w : World} {i : Nat} : ∀ k, (∀ j, j < k → pre bef j i = true → isGrow ops ρ0 u j → Φ j (u j) w) → FactsB bef i Φ (Fl ops ρ0 u k) w
  | 0, _ => trivial
  | k + 1, hh => by
    unfold Fl
    split
    · rename_i hg
      unfold FactsB
      split
      · rename_i hp
        exact ⟨hh k (by omega) hp hg, factsB_of k fun j hj => hh j (by omega)⟩
      · exact factsB_of k fun j hj => hh j (by omega)
    · exact factsB_of k fun j hj => hh j (by omega)

theorem lexEnv_all_congr {u v : Nat → Value} (k : Nat) (he : ∀ j, j < k → u j = v j) : lexEnv ops allD u ρ0 k = lexEnv ops allD v ρ0 k :=
  funext fun _ => lexEnv_congr k fun j hj _ _ => he j hj
theorem isGrow_congr {u v : Nat → Value} {k : Nat} (he : ∀ j, j < k → u j = v j) : isGrow ops ρ0 u k ↔ isGrow ops ρ0 v k := by
  unfold isGrow; rw [lexEnv_all_congr k he]
theorem Fl_congr {u v : Nat → Value} : ∀ k, (∀ j, j < k → u j = v j) → Fl ops ρ0 u k = Fl ops ρ0 v k
  | 0, _ => rfl
  | k + 1, he => by
    have ih := Fl_congr k fun j hj => he j (by omega)
    unfold Fl
    rw [ih, he k (by omega)]
    by_cases hg : isGrow ops ρ0 u k
    · rw [if_pos hg, if_pos ((isGrow_congr fun j hj => he j (by omega)).1 hg)]
    · rw [if_neg hg, if_neg fun x => hg ((isGrow_congr fun j hj => he j (by omega)).2 x)]

/-- What is known of the operations that are done. -/
structure St (P : Program) (ops : List Oper) (bef : Array Nat) (E : World → World → Prop) (Φ : Nat → Value → World → Prop) (w0 : World) (ρ0 : Env) (D : Nat → Bool) (vs : Nat → Value) (w : World) : Prop where
  closed : Closed ops bef D
  ext : E w0 w
  grow : ∀ i, i < ops.length → D i = true → isGrow ops ρ0 vs i → Φ i (vs i) w ∧ Bq ops i (vs i)
  quiet : ∀ i o, ops[i]? = some o → D i = true → wantE ops o (lexEnv ops allD vs ρ0 i) = true → quietOp o.op = true →
    ∃ wk, E w0 wk ∧ (∀ j, j < i → pre bef j i = true → isGrow ops ρ0 vs j → Φ j (vs j) wk) ∧ (execOp (ev (lexEnv ops allD vs ρ0 i)) o).run P wk = .ok (.value (vs i)) wk
  none : ∀ i o, ops[i]? = some o → D i = true → wantE ops o (lexEnv ops allD vs ρ0 i) = false → vs i = undef

/-- Two choices that agree on what is done agree at the slots of what is done, or could be done next. -/
theorem agree_looks {d : Nat} (hk : rgOk ops bef h d = true) {D : Nat → Bool} {u vs : Nat → Value} (he : ∀ j, D j = true → u j = vs j) {i : Nat} {o : Oper} (hi : ops[i]? = some o)
    (hpre : ∀ j, j < ops.length → pre bef j i = true → D j = true) : ∀ t ∈ looks ops o, lexEnv ops allD u ρ0 i t = lexEnv ops allD vs ρ0 i t := fun t ht => by
  refine lexEnv_congr i fun j hj _ hd => he j ?_
  cases hp : ops[j]? with
  | none => simp [hp] at hd
  | some p =>
    rw [hp] at hd
    have hlt := (List.getElem?_eq_some_iff.1 hp).1
    exact hpre j hlt (((rgOk_spec hk hi).2.2 j p hj hp).2.1 t hd (List.mem_append_right _ ht))

theorem isGrow_agree {d : Nat} (hk : rgOk ops bef h d = true) {D : Nat → Bool} {u vs : Nat → Value} (he : ∀ j, D j = true → u j = vs j) {i : Nat}
    (hpre : ∀ j, j < ops.length → pre bef j i = true → D j = true) (hg : isGrow ops ρ0 u i) : isGrow ops ρ0 vs i := by
  obtain ⟨p, hp, hw, hq⟩ := hg
  exact ⟨p, hp, by rw [← wantE_env (agree_looks hk he hp hpre)]; exact hw, hq⟩

theorem rg_down {d : Nat} (hk : rgOk ops bef h d = true) {Q : Env → World → Prop} {D : Nat → Bool} {vs : Nat → Value} {w : World} (st : St P ops bef E Φ w0 ρ0 D vs w)
    (T : rg P ops bef E Φ w0 Q ((ops.take h).drop d) d (lexEnv ops allD vs ρ0 d) []) (hF : Fl ops ρ0 vs d = []) : ∀ k, d ≤ k → k ≤ (ops.take h).length →
    ∃ u, (∀ j, D j = true → u j = vs j) ∧ rg P ops bef E Φ w0 Q ((ops.take h).drop k) k (lexEnv ops allD u ρ0 k) (Fl ops ρ0 u k)
  | 0, hd0, _ => by
    have : d = 0 := by omega
    subst this
    exact ⟨vs, fun _ _ => rfl, by rw [hF]; exact T⟩
  | k + 1, hdk, hlt => by
    by_cases hdk1 : d = k + 1
    · subst hdk1; exact ⟨vs, fun _ _ => rfl, by rw [hF]; exact T⟩
    obtain ⟨u, hu, hr⟩ := rg_down hk st T hF k (by omega) (by omega)
    have hlt' : k < (ops.take h).length := by omega
    have hko : k < ops.length := by simp at hlt'; omega
    have ho : ops[k]? = some ops[k] := List.getElem?_eq_getElem hko
    rw [List.drop_eq_getElem_cons hlt'] at hr
    have e1 : (ops.take h)[k] = ops[k] := by simp
    rw [e1] at hr
    generalize ops[k] = o at ho hr
    -- what holds behind this operation, with its value v
    have next : ∀ (v : Value) (F : List (Nat × Value)), (D k = true → v = vs k) → (∀ u', (∀ j, j < k → u' j = u j) → u' k = v → Fl ops ρ0 u' (k + 1) = F) →
        rg P ops bef E Φ w0 Q ((ops.take h).drop (k + 1)) (k + 1) (updO (lexEnv ops allD u ρ0 k) o.dst v) F →
        ∃ u, (∀ j, D j = true → u j = vs j) ∧ rg P ops bef E Φ w0 Q ((ops.take h).drop (k + 1)) (k + 1) (lexEnv ops allD u ρ0 (k + 1)) (Fl ops ρ0 u (k + 1)) := by
      intro v F hv hF hr'
      refine ⟨fun j => if j = k then v else u j, fun j hj => ?_, ?_⟩
      · dsimp only
        split
        · rename_i e; subst e; exact hv hj
        · exact hu j hj
      · have hc : ∀ j, j < k → (fun j => if j = k then v else u j) j = u j := fun j hj => if_neg (by omega)
        rw [hF _ hc (if_pos rfl), lexEnv_all, lexEnv_all_congr k hc, ho]
        dsimp only [Option.bind_some]
        rw [if_pos rfl]
        exact hr'
    have agD : D k = true → ∀ t ∈ looks ops o, lexEnv ops allD u ρ0 k t = lexEnv ops allD vs ρ0 k t := fun hD =>
      agree_looks hk hu ho fun j hj hp => st.closed k j hko hj hD hp
    unfold rg at hr
    by_cases hw : wantE ops o (lexEnv ops allD u ρ0 k) = true
    · rw [if_pos hw] at hr
      cases hq : quietOp o.op with
      | true =>
        rw [hq] at hr
        obtain ⟨v, hv, hr⟩ := opQ_sound hr
        refine next v _ (fun hD => ?_) (fun u' hc _ => ?_) hr
        · have ag := agD hD
          obtain ⟨wk, hx, hf, hrun⟩ := st.quiet k o ho hD (by rw [← wantE_env ag]; exact hw) hq
          have := hv wk ⟨hx, factsB_of k fun j hj hp hg => by
            have hjD := st.closed k j hko (by omega) hD hp
            rw [hu j hjD]
            exact hf j hj hp (isGrow_agree hk hu (fun m hm hpm => st.closed j m (by omega) hm hjD hpm) hg)⟩
          rw [execOp_env hk ho ag, hrun] at this
          cases this
          rfl
        · rw [Fl_succ, if_neg (fun ⟨p, hp, _, hpq⟩ => by rw [ho] at hp; cases hp; rw [hq] at hpq; cases hpq), Fl_congr k hc]
      | false =>
        rw [hq] at hr
        obtain ⟨_, hr⟩ := hr
        have hbq : Bq ops k (if D k = true then vs k else .bool true) := by
          by_cases hD : D k = true
          · rw [if_pos hD]
            exact (st.grow k hko hD ⟨o, ho, by rw [← wantE_env (agD hD)]; exact hw, hq⟩).2
          · rw [if_neg hD]; exact fun _ => ⟨true, rfl⟩
        refine next (if D k = true then vs k else .bool true) _ (fun hD => if_pos hD) (fun u' hc he => ?_) (hr _ hbq)
        rw [Fl_succ, if_pos ((isGrow_congr hc).2 ⟨o, ho, hw, hq⟩), Fl_congr k hc, he]
    · rw [if_neg hw] at hr
      refine next undef _ (fun hD => ?_) (fun u' hc _ => ?_) hr
      · exact (st.none k o ho hD (by rw [← wantE_env (agD hD)]; simpa using hw)).symm
      · rw [Fl_succ, if_neg (fun hg => hw ?_), Fl_congr k hc]
        obtain ⟨p, hp, hpw, _⟩ := (isGrow_congr hc).1 hg
        rw [ho] at hp; cases hp; exact hpw
end


theorem countP_less {α : Type} {p q : α → Bool} : ∀ (l : List α), (∀ x ∈ l, q x = true → p x = true) → (∃ x ∈ l, p x = true ∧ q x = false) → l.countP q < l.countP p
  | [], _, hx => by obtain ⟨x, hx, _⟩ := hx; cases hx
  | y :: l, hs, hx => by
    have mono : l.countP q ≤ l.countP p := List.countP_mono_left fun x hx => hs x (List.mem_cons_of_mem _ hx)
    simp only [List.countP_cons]
    obtain ⟨x, hm, hp, hq⟩ := hx
    rcases List.mem_cons.1 hm with e | hm
    · subst e
      rw [hp, hq]
      simp
      omega
    · have := countP_less l (fun x hx => hs x (List.mem_cons_of_mem _ hx)) ⟨x, hm, hp, hq⟩
      have h1 : (if q y = true then 1 else 0) ≤ (if p y = true then 1 else 0) := by
        by_cases hqy : q y = true
        · rw [if_pos hqy, if_pos (hs y (List.mem_cons_self ..) hqy)]; exact Nat.le_refl _
        · rw [if_neg hqy]; exact Nat.zero_le _
      omega

def cnt (n : Nat) (listed : Array Bool) : Nat := (List.range n).countP fun i => !listed.getD i false

section
variable {P : Program} {ops : List Oper} {bef : Array Nat} {h N : Nat} {DD : List Deferred} {E : World → World → Prop} {Φ : Nat → Value → World → Prop} {w0 : World} {ρ0 : Env}

theorem cnt_set {n i : Nat} {listed : Array Bool} (hs : listed.size = n) (hi : i < n) (hf : listed.getD i false = false) : cnt n (listed.setIfInBounds i true) < cnt n listed := by
  refine countP_less _ (fun x _ hx => ?_) ⟨i, List.mem_range.2 hi, by simp [hf], by simp [hs, hi]⟩
  by_cases e : i = x
  · subst e; simp [hs, hi] at hx
  · rw [getD_set_ne false e] at hx; exact hx
theorem cnt_zero {n : Nat} {listed : Array Bool} (hz : cnt n listed = 0) : ∀ i, i < n → listed.getD i false = true := fun i hi => by
  have := List.countP_eq_zero.1 hz i (List.mem_range.2 hi)
  simpa using this

theorem pre_lt {d : Nat} (hk : rgOk ops bef h d = true) (hb : befOk ops bef = true) (j : Nat) (hj : j < ops.length) : ∀ i, i < ops.length → pre bef j i = true → j < i := by
  intro i
  induction i using Nat.strongRecOn with
  | _ i ih =>
    intro hi hp
    obtain ⟨o, ho, e, he, hbd, hx⟩ := befOk_spec hb hi hj hp
    have hlt := ((rgOk_spec hk ho).2.1 e he hbd).1
    rcases hx with hx | hx
    · omega
    · have := ih e.on hlt (by omega) hx
      omega

theorem lexEnv_on {D : Nat → Bool} {vs : Nat → Value} {ρ : Env} {k : Nat} (hD : D k = true) : lexEnv ops D vs ρ (k + 1) = updO (lexEnv ops D vs ρ k) ((ops[k]?).bind (·.dst)) (vs k) := if_pos hD
theorem lexEnv_off {D : Nat → Bool} {vs : Nat → Value} {ρ : Env} {k : Nat} (hD : D k = false) : lexEnv ops D vs ρ (k + 1) = lexEnv ops D vs ρ k := if_neg (by rw [hD]; exact Bool.false_ne_true)

theorem getD_true_false {listed : Array Bool} {i : Nat} (hi : i < listed.size) : listed.getD i true = listed.getD i false := by simp [Array.getD, hi]

theorem ready_spec {d : Nat} (hk : rgOk ops bef h d = true) (hb : befOk ops bef = true) {listed : Array Bool} (hs : listed.size = ops.length) (hc : Closed ops bef fun i => listed.getD i false) {i : Nat}
    (hr : i ∈ Region.ready .any ops.toArray listed) : i < ops.length ∧ listed.getD i false = false ∧ ∀ j, j < ops.length → pre bef j i = true → listed.getD j false = true := by
  rw [mem_ready] at hr
  obtain ⟨h0, o, ho, he⟩ := hr
  have ho' : ops[i]? = some o := by simpa using ho
  have hi := (List.getElem?_eq_some_iff.1 ho').1
  refine ⟨hi, by rw [← getD_true_false (by omega)]; exact h0, fun j hj hp => ?_⟩
  obtain ⟨o', ho2, e, hem, hbd, hx⟩ := befOk_spec hb hi hj hp
  rw [ho'] at ho2
  cases ho2
  have h1 := he e (by simpa using hem) hbd
  rcases hx with hx | hx
  · rw [← hx]; exact h1
  · exact hc e.on j (by have := ((rgOk_spec hk ho').2.1 e hem hbd).1; omega) hj h1 hx

theorem ready_some {d : Nat} (hk : rgOk ops bef h d = true) {listed : Array Bool} (hs : listed.size = ops.length) : ∀ i, i < ops.length → listed.getD i false = false → Region.ready .any ops.toArray listed ≠ [] := by
  intro i
  induction i using Nat.strongRecOn with
  | _ i ih =>
    intro hi hf
    by_cases hall : ∀ j, j < i → listed.getD j false = true
    · intro hnil
      have : i ∈ Region.ready .any ops.toArray listed := by
        rw [mem_ready]
        refine ⟨by rw [getD_true_false (by omega)]; exact hf, ops[i], by simp [hi], fun e he hbd => ?_⟩
        exact hall _ ((rgOk_spec hk (List.getElem?_eq_getElem hi)).2.1 e he hbd).1
      rw [hnil] at this
      cases this
    · simp only [Classical.not_forall] at hall
      obtain ⟨j, hj, hjf⟩ := hall
      exact ih j hj (by omega) (by simpa using hjf)

theorem Closed.set {listed : Array Bool} (hc : Closed ops bef fun i => listed.getD i false) {i : Nat} (hpre : ∀ j, j < ops.length → pre bef j i = true → listed.getD j false = true) :
    Closed ops bef fun k => (listed.setIfInBounds i true).getD k false := fun k j hkn hj hD hp => by
  by_cases e : i = k
  · subst e; exact getD_set_true (hpre j hj hp)
  · dsimp only at hD
    rw [getD_set_ne false e] at hD
    exact getD_set_true (hc k j hkn hj hD hp)

variable {Q : Exit → Env → World → Prop} {Q' : Exit → Act → World → Prop}

theorem rg_tail {d : Nat} (hdh : d ≤ h) (hk : rgOk ops bef h d = true) (hb : befOk ops bef = true) (hQ : ∀ e a ρ w, Agrees N DD a ρ → Q e ρ w → Q' e a w) (hdst : ops.all (dstOk N) = true) :
    ∀ (fuel j : Nat) (listed : Array Bool) (a : Act) (ρ : Env) (w : World), h ≤ j → j ≤ ops.length → listed.size = ops.length → (∀ i, i < ops.length → listed.getD i false = decide (i < j)) → cnt ops.length listed ≤ fuel →
      Agrees N DD a ρ → vcOps P ops Q (ops.drop j) ρ w → wpAnyIn Fence.wide 0 P .any ops.toArray Q' fuel listed a w := by
  intro fuel
  induction fuel with
  | zero =>
    intro j listed a ρ w hhj hjn hs hl hcn ha hv
    have hall := cnt_zero (Nat.le_zero.1 hcn)
    have hj : j = ops.length := by
      rcases Nat.lt_or_ge j ops.length with h1 | h1
      · have := hall j h1; rw [hl j h1] at this; simp at this
      · omega
    subst hj
    refine ⟨?_, ?_⟩
    · rcases hr : Region.ready .any ops.toArray listed with _ | ⟨i, l⟩
      · rfl
      · exfalso
        have hi : i ∈ Region.ready .any ops.toArray listed := by rw [hr]; exact List.mem_cons_self ..
        rw [mem_ready] at hi
        obtain ⟨h0, o, ho, _⟩ := hi
        have hin : i < ops.length := by simpa using (Array.getElem?_eq_some_iff.1 ho).1
        rw [getD_true_false (by omega), hall i hin] at h0
        cases h0
    · rw [List.drop_length] at hv; exact hQ _ _ _ _ ha hv
  | succ fuel ih =>
    intro j listed a ρ w hhj hjn hs hl hcn ha hv
    have hc : Closed ops bef fun i => listed.getD i false := fun i k hi hkn hD hp => by
      dsimp only at *
      rw [hl i hi] at hD
      rw [hl k hkn]
      have := pre_lt hk hb k hkn i hi hp
      simp at hD ⊢; omega
    refine ⟨fun hnil => ?_, fun i hi => ?_⟩
    · rcases Nat.lt_or_ge j ops.length with h1 | h1
      · exact absurd hnil (ready_some hk hs j h1 (by rw [hl j h1]; simp))
      · have hj : j = ops.length := by omega
        subst hj
        rw [List.drop_length] at hv; exact hQ _ _ _ _ ha hv
    · obtain ⟨hin, hif, hpre⟩ := ready_spec hk hb hs hc hi
      have hji : j ≤ i := by rw [hl i hin] at hif; simpa using hif
      have hij : i = j := by
        rcases Nat.lt_or_ge j i with h1 | h1
        · exfalso
          have hp := ((rgOk_spec hk (List.getElem?_eq_getElem hin)).2.2 j ops[j] h1 (List.getElem?_eq_getElem (by omega))).1 (by omega) (by omega)
          have := hpre j (by omega) hp
          rw [hl j (by omega)] at this
          simp at this
        · omega
      subst hij
      have ho : ops[i]? = some ops[i] := List.getElem?_eq_getElem hin
      rw [List.drop_eq_getElem_cons hin] at hv
      have hdo : dstOk N ops[i] = true := List.all_eq_true.1 hdst _ (List.getElem_mem hin)
      generalize ops[i] = o at ho hv hdo
      have hdst' : ∀ x, o.dst = some x → x < N := fun x hx => by simp [dstOk, hx] at hdo; exact hdo
      have hw : Region.wanted o (yielded ops.toArray a.tmps) = wantE ops o ρ := wanted_eq fun d _ => ha.at_ d
      have next : ∀ v w', vcOps P ops Q (ops.drop (i + 1)) (updO ρ o.dst v) w' → wpAnyIn Fence.wide 0 P .any ops.toArray Q' fuel (listed.setIfInBounds i true) (a.put o.dst v) w' := fun v w' hv' =>
        ih (i + 1) _ _ _ _ (by omega) (by omega) (by simp [hs]) (fun k hkn => by
          by_cases e : i = k
          · subst e; simp [hs, hin]
          · rw [getD_set_ne false e, hl k hkn]; congr 1; simp; omega) (by have := cnt_set hs hin hif; omega) (ha.put hdst' v) hv'
      unfold wpOpIn
      have hoa : ops.toArray[i]? = some o := by simpa using ho
      simp only [hoa, hw]
      have hrun : opD P ρ o w (fun v w' => vcOps P ops Q (ops.drop (i + 1)) (updO ρ o.dst v) w') (fun c w' => Q (.panic c) ρ w') → o.wpIn Fence.wide 0 P a w (wpAnyIn Fence.wide 0 P .any ops.toArray Q' fuel (listed.setIfInBounds i true)) Q' :=
        fun hop => opK_wp (by rw [ha.eval_eq]) (fun v w' hk => next v w' hk) (fun c w' hp => hQ _ _ _ _ ha hp) (opD_sound hop)
      cases hg : o.guard with
      | none =>
        have hx : wantE ops o ρ = true := by simp [wantE, hg]
        rw [if_pos hx]
        simp only [vcOps, hg] at hv
        exact hrun hv
      | some gb =>
        simp only [vcOps, hg] at hv
        by_cases hx : wantE ops o ρ = true
        · rw [if_pos hx] at hv ⊢
          exact hrun hv
        · rw [if_neg hx] at hv ⊢
          exact ⟨fun _ _ => trivial, next _ _ hv⟩

theorem lexEnv_put {d : Nat} (hk : rgOk ops bef h d = true) {listed : Array Bool} (hc : Closed ops bef fun i => listed.getD i false) {vs : Nat → Value} {v : Value} {i : Nat} {o : Oper} (hi : ops[i]? = some o) (hif : listed.getD i false = false)
    (hs : listed.size = ops.length) : ∀ k, i < k → k ≤ ops.length → lexEnv ops (fun k => (listed.setIfInBounds i true).getD k false) (fun j => if j = i then v else vs j) ρ0 k = updO (lexEnv ops (fun i => listed.getD i false) vs ρ0 k) o.dst v := by
  have hin := (List.getElem?_eq_some_iff.1 hi).1
  have low : ∀ m, m ≤ i → lexEnv ops (fun k => (listed.setIfInBounds i true).getD k false) (fun j => if j = i then v else vs j) ρ0 m = lexEnv ops (fun i => listed.getD i false) vs ρ0 m := by
    intro m
    induction m with
    | zero => intro _; rfl
    | succ m ih =>
      intro hm
      simp only [lexEnv]
      rw [ih (by omega), getD_set_ne false (by omega), if_neg (show ¬ m = i by omega)]
  intro k
  induction k with
  | zero => intro h0; omega
  | succ k ih =>
    intro hik hkn
    by_cases e : k = i
    · subst e
      have e1 : (listed.setIfInBounds k true).getD k false = true := by simp [hs, hin]
      rw [lexEnv_on (D := fun k_1 => (listed.setIfInBounds k true).getD k_1 false) e1, lexEnv_off (D := fun i => listed.getD i false) hif, low k (Nat.le_refl _), if_pos rfl, hi]
      rfl
    · have ih := ih (by omega) (by omega)
      simp only [lexEnv]
      rw [ih, getD_set_ne false (fun x => e x.symm), if_neg e]
      by_cases hD : listed.getD k false = true
      · rw [if_pos hD, if_pos hD]
        -- two writers of one slot stand in order
        cases hp : ops[k]? with
        | none => exact absurd hp (by simp; omega)
        | some p =>
          dsimp only [Option.bind_some]
          funext t
          by_cases h1 : o.dst = some t
          · by_cases h2 : p.dst = some t
            · exfalso
              have := ((rgOk_spec hk hp).2.2 i o (by omega) hi).2.1 t h1 (List.mem_append_left _ (by simp [h2]))
              have := hc k i (by omega) hin hD this
              dsimp only at this
              rw [hif] at this; cases this
            · rw [updO_ne h2, h1]; simp only [updO, upd_same]
          · rw [updO_ne h1]
            by_cases h2 : p.dst = some t
            · rw [h2]; simp only [updO, upd_same]
            · rw [updO_ne h2, updO_ne h2, updO_ne h1]
      · rw [if_neg hD, if_neg hD]

theorem rg_end {d : Nat} (hdh : d ≤ h) (hk : rgOk ops bef h d = true) (hb : befOk ops bef = true) (hh : h ≤ ops.length) (hQ : ∀ e a ρ w, Agrees N DD a ρ → Q e ρ w → Q' e a w) (hdst : ops.all (dstOk N) = true)
    (vs0 : Nat → Value) (hq0 : ∀ i o, i < d → ops[i]? = some o → quietOp o.op = true) (T : rg P ops bef E Φ w0 (fun ρ w => vcOps P ops Q (ops.drop h) ρ w) ((ops.take h).drop d) d (lexEnv ops allD vs0 ρ0 d) [])
    (fuel : Nat) (listed : Array Bool) (vs : Nat → Value) (a : Act) (w : World) (hs : listed.size = ops.length) (hlt : ∀ i, listed.getD i false = true → i < h) (hcn : cnt ops.length listed ≤ fuel)
    (st : St P ops bef E Φ w0 ρ0 (fun i => listed.getD i false) vs w) (ha : Agrees N DD a (lexEnv ops (fun i => listed.getD i false) vs ρ0 ops.length)) (hv0 : ∀ i, i < d → vs i = vs0 i) (hall : ∀ i, i < h → listed.getD i false = true) :
    wpAnyIn Fence.wide 0 P .any ops.toArray Q' fuel listed a w := by
  obtain ⟨u, hu, hr⟩ := rg_down hk st (by rw [lexEnv_all_congr d hv0]; exact T) (Fl_none hq0 d (Nat.le_refl _)) (ops.take h).length (by simp; omega) (Nat.le_refl _)
  have hlen : (ops.take h).length = h := by simp; omega
  rw [hlen] at hr
  rw [show (ops.take h).drop h = [] by simp] at hr
  have hv := hr w st.ext (facts_of h fun j hj hg => by
    rw [hu j (hall j hj)]
    exact (st.grow j (by omega) (hall j hj) (isGrow_agree hk hu (fun m hm hpm => st.closed j m (by omega) hm (hall j hj) hpm) hg)).1)
  have high : ∀ k, h ≤ k → lexEnv ops (fun i => listed.getD i false) vs ρ0 k = lexEnv ops (fun i => listed.getD i false) vs ρ0 h := by
    intro k
    induction k with
    | zero => intro h0; have : h = 0 := by omega
              rw [this]
    | succ k ih =>
      intro hk'
      rcases Nat.lt_or_ge k h with h1 | h1
      · have : h = k + 1 := by omega
        rw [this]
      · simp only [lexEnv]
        rw [if_neg (fun x => by have := hlt k x; omega), ih h1]
  have low : ∀ k, k ≤ h → lexEnv ops (fun i => listed.getD i false) vs ρ0 k = lexEnv ops allD u ρ0 k := by
    intro k
    induction k with
    | zero => intro _; rfl
    | succ k ih =>
      intro hk'
      rw [lexEnv_all, ← ih (by omega), hu k (hall k (by omega))]
      simp only [lexEnv]
      rw [if_pos (hall k (by omega))]
  refine rg_tail hdh hk hb hQ hdst fuel h listed a _ w (Nat.le_refl _) hh hs (fun i hi => ?_) hcn ha (by rw [high _ hh, low h (Nat.le_refl _)]; exact hv)
  by_cases e : i < h
  · rw [hall i e]; simp [e]
  · cases hf : listed.getD i false with
    | true => exact absurd (hlt i hf) e
    | false => simp [e]

theorem rg_main {d : Nat} (hdh : d ≤ h) (hk : rgOk ops bef h d = true) (hb : befOk ops bef = true) (hh : h ≤ ops.length) (hQ : ∀ e a ρ w, Agrees N DD a ρ → Q e ρ w → Q' e a w) (hdst : ops.all (dstOk N) = true)
    (hE : Pre E) (hmono : ∀ i v w w', E w w' → Φ i v w → Φ i v w') (vs0 : Nat → Value) (hq0 : ∀ i o, i < d → ops[i]? = some o → quietOp o.op = true) (T : rg P ops bef E Φ w0 (fun ρ w => vcOps P ops Q (ops.drop h) ρ w) ((ops.take h).drop d) d (lexEnv ops allD vs0 ρ0 d) []) :
    ∀ (fuel : Nat) (listed : Array Bool) (vs : Nat → Value) (a : Act) (w : World), listed.size = ops.length → (∀ i, i < d → listed.getD i false = true) → (∀ i, listed.getD i false = true → i < h) → cnt ops.length listed ≤ fuel →
      St P ops bef E Φ w0 ρ0 (fun i => listed.getD i false) vs w → Agrees N DD a (lexEnv ops (fun i => listed.getD i false) vs ρ0 ops.length) → (∀ i, i < d → vs i = vs0 i) → wpAnyIn Fence.wide 0 P .any ops.toArray Q' fuel listed a w := by
  intro fuel
  induction fuel with
  | zero =>
    intro listed vs a w hs hd0 hlt hcn st ha hv0
    have hall := cnt_zero (Nat.le_zero.1 hcn)
    have hhn : h = ops.length := by
      rcases Nat.lt_or_ge h ops.length with h1 | h1
      · have := hlt h (hall h h1); omega
      · omega
    exact rg_end hdh hk hb hh hQ hdst vs0 hq0 T 0 listed vs a w hs hlt hcn st ha hv0 fun i hi => hall i (by omega)
  | succ fuel ih =>
    intro listed vs a w hs hd0 hlt hcn st ha hv0
    by_cases hall : ∀ i, i < h → listed.getD i false = true
    · exact rg_end hdh hk hb hh hQ hdst vs0 hq0 T (fuel + 1) listed vs a w hs hlt hcn st ha hv0 hall
    · simp only [Classical.not_forall] at hall
      obtain ⟨i0, hi0, hf0⟩ := hall
      have hf0 : listed.getD i0 false = false := by simpa using hf0
      refine ⟨fun hnil => absurd hnil (ready_some hk hs i0 (by omega) hf0), fun i hi => ?_⟩
      obtain ⟨hin, hif, hpre⟩ := ready_spec hk hb hs st.closed hi
      have ho : ops[i]? = some ops[i] := List.getElem?_eq_getElem hin
      have hih : i < h := by
        rcases Nat.lt_or_ge i h with h1 | h1
        · exact h1
        · have hp := ((rgOk_spec hk ho).2.2 i0 ops[i0] (by omega) (List.getElem?_eq_getElem (by omega))).1 h1 (by
            rcases Nat.lt_or_ge i0 d with h2 | h2
            · rw [hd0 i0 h2] at hf0; cases hf0
            · exact h2)
          have := hpre i0 (by omega) hp
          rw [hf0] at this; cases this
      have hdo : dstOk N ops[i] = true := List.all_eq_true.1 hdst _ (List.getElem_mem hin)
      have hdi : d ≤ i := by
        rcases Nat.lt_or_ge i d with h2 | h2
        · rw [hd0 i h2] at hif; cases hif
        · exact h2
      obtain ⟨u, hu, hr⟩ := rg_down hk st (by rw [lexEnv_all_congr d hv0]; exact T) (Fl_none hq0 d (Nat.le_refl _)) i hdi (by simp; omega)
      have hti : i < (ops.take h).length := by simp; omega
      rw [List.drop_eq_getElem_cons hti] at hr
      have e1 : (ops.take h)[i] = ops[i] := by simp
      rw [e1] at hr
      generalize ops[i] = o at ho hr hdo
      have hdst' : ∀ x, o.dst = some x → x < N := fun x hx => by simp [dstOk, hx] at hdo; exact hdo
      -- the frame, the text's order, and the choice agree at what this operation looks at
      have ag1 : ∀ t ∈ looks ops o, lexEnv ops (fun i => listed.getD i false) vs ρ0 ops.length t = lexEnv ops allD vs ρ0 i t := fun t ht =>
        lexEnv_looks hk st.closed ho hpre hif (List.mem_append_right _ ht) ops.length (by omega) (Nat.le_refl _)
      have ag2 : ∀ t ∈ looks ops o, lexEnv ops allD u ρ0 i t = lexEnv ops allD vs ρ0 i t := agree_looks hk hu ho hpre
      have hex : execOp a.eval o = execOp (ev (lexEnv ops allD u ρ0 i)) o := by
        rw [ha.eval_eq]
        exact execOp_env hk ho fun t ht => by rw [ag1 t ht, ag2 t ht]
      have hw : Region.wanted o (yielded ops.toArray a.tmps) = wantE ops o (lexEnv ops allD u ρ0 i) := wanted_eq fun d hd => by
        obtain ⟨g, b, hg, hgs⟩ := hd
        have ht : d ∈ looks ops o := List.mem_append_right _ (by simp [hg, hgs])
        rw [ha.at_, ag1 d ht, ag2 d ht]
      -- the facts on which it leans
      have hfB : FactsB bef i Φ (Fl ops ρ0 u i) w := factsB_of i fun j hj hp hg => by
        have hjD := hpre j (by omega) hp
        rw [hu j hjD]
        exact (st.grow j (by omega) hjD (isGrow_agree hk hu (fun m hm hpm => st.closed j m (by omega) hm hjD hpm) hg)).1
      -- one step on
      have vsne : ∀ (v : Value) j, listed.getD j false = true → (fun j => if j = i then v else vs j) j = vs j := fun v j hj => if_neg fun e => by subst e; rw [hif] at hj; cases hj
      have agO : ∀ (v : Value) k p, ops[k]? = some p → listed.getD k false = true → ∀ t ∈ looks ops p, lexEnv ops allD (fun j => if j = i then v else vs j) ρ0 k t = lexEnv ops allD vs ρ0 k t := fun v k p hp hD =>
        agree_looks hk (vsne v) hp fun j hj hpj => st.closed k j (List.getElem?_eq_some_iff.1 hp).1 hj hD hpj
      have grO : ∀ (v : Value) k, listed.getD k false = true → k < ops.length → (isGrow ops ρ0 (fun j => if j = i then v else vs j) k ↔ isGrow ops ρ0 vs k) := fun v k hD hkn =>
        ⟨isGrow_agree hk (vsne v) fun j hj hp => st.closed k j hkn hj hD hp, isGrow_agree hk (fun j hj => (vsne v j hj).symm) fun j hj hp => st.closed k j hkn hj hD hp⟩
      have agI : ∀ (v : Value), ∀ t ∈ looks ops o, lexEnv ops allD (fun j => if j = i then v else vs j) ρ0 i t = lexEnv ops allD u ρ0 i t := fun v t ht => by
        rw [ag2 t ht]; exact agree_looks hk (vsne v) ho hpre t ht
      have next : ∀ v w', E w w' → (wantE ops o (lexEnv ops allD u ρ0 i) = true → quietOp o.op = true → w' = w ∧ (execOp (ev (lexEnv ops allD u ρ0 i)) o).run P w = .ok (.value v) w) →
          (wantE ops o (lexEnv ops allD u ρ0 i) = true → quietOp o.op = false → Φ i v w' ∧ Bq ops i v) → (wantE ops o (lexEnv ops allD u ρ0 i) = false → v = undef) →
          wpAnyIn Fence.wide 0 P .any ops.toArray Q' fuel (listed.setIfInBounds i true) (a.put o.dst v) w' := by
        intro v w' hx hqv hgv hnv
        have dset : ∀ k, (listed.setIfInBounds i true).getD k false = true → k = i ∨ listed.getD k false = true := fun k hk' => by
          by_cases e : i = k
          · exact .inl e.symm
          · rw [getD_set_ne false e] at hk'; exact .inr hk'
        refine ih _ (fun j => if j = i then v else vs j) _ _ (by simp [hs]) (fun k hk' => getD_set_true (hd0 k hk')) (fun k hk' => ?_) (by have := cnt_set hs hin hif; omega) ⟨Closed.set st.closed hpre, hE.trans st.ext hx, ?_, ?_, ?_⟩ ?_ ?_
        · rcases dset k hk' with e | e
          · omega
          · exact hlt k e
        · intro k hkn hD hg
          rcases dset k hD with e | e
          · subst e
            rw [if_pos rfl]
            obtain ⟨p, hp, hpw, hpq⟩ := hg
            rw [ho] at hp; cases hp
            exact hgv (by rw [← wantE_env (agI v)]; exact hpw) hpq
          · rw [show (if k = i then v else vs k) = vs k from vsne v k e]
            have h2 := st.grow k hkn e ((grO v k e hkn).1 hg)
            exact ⟨hmono _ _ _ _ hx h2.1, h2.2⟩
        · intro k p hp hD hpw hpq
          have hkn := (List.getElem?_eq_some_iff.1 hp).1
          rcases dset k hD with e | e
          · subst e
            rw [ho] at hp; cases hp
            obtain ⟨rfl, hrun⟩ := hqv (by rw [← wantE_env (agI v)]; exact hpw) hpq
            refine ⟨_, st.ext, fun j hj hpj hg => ?_, by rw [execOp_env hk ho (agI v)]; rw [if_pos rfl]; exact hrun⟩
            have hjD := hpre j (by omega) hpj
            rw [show (if j = k then v else vs j) = vs j from vsne v j hjD]
            exact (st.grow j (by omega) hjD ((grO v j hjD (by omega)).1 hg)).1
          · obtain ⟨wk, hxk, hfk, hrun⟩ := st.quiet k p hp e (by rw [← wantE_env (agO v k p hp e)]; exact hpw) hpq
            refine ⟨wk, hxk, fun j hj hpj hg => ?_, by rw [execOp_env hk hp (agO v k p hp e)]; rw [show (if k = i then v else vs k) = vs k from vsne v k e]; exact hrun⟩
            have hjD := st.closed k j hkn (by omega) e hpj
            rw [show (if j = i then v else vs j) = vs j from vsne v j hjD]
            exact hfk j hj hpj ((grO v j hjD (by omega)).1 hg)
        · intro k p hp hD hpw
          rcases dset k hD with e | e
          · subst e
            rw [ho] at hp; cases hp
            rw [if_pos rfl]
            exact hnv (by rw [← wantE_env (agI v)]; exact hpw)
          · rw [show (if k = i then v else vs k) = vs k from vsne v k e]
            exact st.none k p hp e (by rw [← wantE_env (agO v k p hp e)]; exact hpw)
        rotate_left
        · intro k hk'
          have : k ≠ i := by omega
          rw [show (if k = i then v else vs k) = vs k from if_neg this]; exact hv0 k hk'
        · have := ha.put hdst' v
          have heq : updO (lexEnv ops (fun i => listed.getD i false) vs ρ0 ops.length) o.dst v = lexEnv ops (fun k => (listed.setIfInBounds i true).getD k false) (fun j => if j = i then v else vs j) ρ0 ops.length :=
            (lexEnv_put hk st.closed ho hif hs ops.length hin (Nat.le_refl _)).symm
          rw [heq] at this
          exact this
      unfold rg at hr
      unfold wpOpIn
      have hoa : ops.toArray[i]? = some o := by simpa using ho
      simp only [hoa, hw]
      by_cases hx : wantE ops o (lexEnv ops allD u ρ0 i) = true
      · rw [if_pos hx] at hr ⊢
        cases hq : quietOp o.op with
        | true =>
          rw [hq] at hr
          obtain ⟨v, hv, _⟩ := opQ_sound hr
          have hrun := hv w ⟨st.ext, hfB⟩
          unfold Oper.wpIn
          refine ⟨fun _ _ => trivial, ?_⟩
          rw [show o.semAt Fence.wide.round a.eval = execOp a.eval o from rfl, hex, hrun]
          exact next v w (hE.refl w) (fun _ _ => ⟨rfl, hrun⟩) (fun _ e => by cases hq.symm.trans e) (fun e => by cases hx.symm.trans e)
        | false =>
          rw [hq] at hr
          exact opK_wp (K := fun v w' => E w w' ∧ Φ i v w' ∧ Bq ops i v) (Kp := fun _ _ => False) hex (fun v w' ⟨h1, h2⟩ => next v w' h1 (fun _ e => by cases hq.symm.trans e) (fun _ _ => h2) (fun e => by cases hx.symm.trans e)) (fun _ _ hp => hp.elim) (opD_sound (hr.1 w st.ext hfB))
      · rw [if_neg hx]
        exact ⟨fun _ _ => trivial, next undef w (hE.refl w) (fun e => absurd e hx) (fun e => absurd e hx) (fun _ => rfl)⟩
end


/-! ### Operations whose values hang on their operands alone may go first; the list is then in another order -/
def idxN : List Nat → Nat → Nat
  | [], _ => 0
  | x :: l, i => bif Nat.beq x i then 0 else idxN l i + 1
def nthN : List Nat → Nat → Nat
  | [], _ => 0
  | x :: _, 0 => x
  | _ :: l, k + 1 => nthN l k
def nthO (ops : List Oper) (i : Nat) : Oper := match ops[i]? with | some o => o | none => default
def moved (π : List Nat) (o : Oper) : Oper :=
  { o with after := (o.after.toList.map fun e => { e with on := idxN π e.on }).toArray, guard := match o.guard with | some (g, b) => some (idxN π g, b) | none => none }
def permOps (π : List Nat) (ops : List Oper) : List Oper := π.map fun i => moved π (nthO ops i)
def permOk (π : List Nat) (ops : List Oper) : Bool :=
  Nat.beq π.length ops.length && (List.range ops.length).all (fun k => Nat.beq (idxN π (nthN π k)) k && Nat.blt (nthN π k) ops.length && Nat.beq (nthN π (idxN π k)) k && Nat.blt (idxN π k) ops.length) &&
    ops.all fun o => (o.after.toList.all fun e => Nat.blt e.on ops.length) && (match o.guard with | some (g, _) => Nat.blt g ops.length | none => true)

theorem nthN_get : ∀ (π : List Nat) (k : Nat), k < π.length → π[k]? = some (nthN π k)
  | [], k, h => by simp at h
  | x :: l, 0, _ => rfl
  | x :: l, k + 1, h => by simpa [nthN] using nthN_get l k (by simpa using h)

section
variable {P : Program} {ops : List Oper} {π : List Nat}

theorem permOk_spec (h : permOk π ops = true) : π.length = ops.length ∧ (∀ k, k < ops.length → idxN π (nthN π k) = k ∧ nthN π k < ops.length ∧ nthN π (idxN π k) = k ∧ idxN π k < ops.length) ∧
    ∀ o ∈ ops, (∀ e ∈ o.after, e.on < ops.length) ∧ ∀ g b, o.guard = some (g, b) → g < ops.length := by
  unfold permOk at h
  simp only [Bool.and_eq_true] at h
  obtain ⟨⟨h1, h2⟩, h3⟩ := h
  refine ⟨Nat.eq_of_beq_eq_true h1, fun k hk => ?_, fun o ho => ?_⟩
  · have := List.all_eq_true.1 h2 k (List.mem_range.2 hk)
    simp only [Bool.and_eq_true] at this
    exact ⟨Nat.eq_of_beq_eq_true this.1.1.1, by simpa using this.1.1.2, Nat.eq_of_beq_eq_true this.1.2, by simpa using this.2⟩
  · have := List.all_eq_true.1 h3 o ho
    simp only [Bool.and_eq_true] at this
    refine ⟨fun e he => ?_, fun g b hg => ?_⟩
    · have := List.all_eq_true.1 this.1 e (by simpa using he)
      simpa using this
    · have := this.2
      rw [hg] at this
      simpa using this

theorem permOps_get (h : permOk π ops = true) {i : Nat} {o : Oper} (hi : ops[i]? = some o) : (permOps π ops)[idxN π i]? = some (moved π o) := by
  have hlt := (List.getElem?_eq_some_iff.1 hi).1
  obtain ⟨hl, hk, _⟩ := permOk_spec h
  obtain ⟨_, _, h3, h4⟩ := hk i hlt
  unfold permOps
  rw [List.getElem?_map, nthN_get π _ (by omega), h3]
  simp [nthO, hi]

theorem permOps_length (h : permOk π ops = true) : (permOps π ops).length = ops.length := by
  unfold permOps; rw [List.length_map]; exact (permOk_spec h).1

theorem perm_wanted (h : permOk π ops = true) {o : Oper} (ho : o ∈ ops) (tmps : Array Value) : Region.wanted (moved π o) (yielded (permOps π ops).toArray tmps) = Region.wanted o (yielded ops.toArray tmps) := by
  unfold Region.wanted moved
  cases hg : o.guard with
  | none => rfl
  | some gb =>
    obtain ⟨g, b⟩ := gb
    dsimp only
    have hlt := ((permOk_spec h).2.2 o ho).2 g b hg
    have e1 : ops[g]? = some ops[g] := List.getElem?_eq_getElem hlt
    have e2 := permOps_get h e1
    unfold yielded
    rw [List.getElem?_toArray, List.getElem?_toArray, e1, e2]
    rfl

theorem wpAny_perm (h : permOk π ops = true) {Q : Exit → Act → World → Prop} : ∀ (fuel : Nat) (l l' : Array Bool) (a : Act) (w : World), l.size = ops.length → l'.size = ops.length →
    (∀ i, i < ops.length → l'.getD (idxN π i) false = l.getD i false) → wpAnyIn Fence.wide 0 P .any (permOps π ops).toArray Q fuel l' a w → wpAnyIn Fence.wide 0 P .any ops.toArray Q fuel l a w := by
  have hlen := permOps_length h
  obtain ⟨hl, hk, hall⟩ := permOk_spec h
  have to : ∀ {l l' : Array Bool}, l.size = ops.length → l'.size = ops.length → (∀ i, i < ops.length → l'.getD (idxN π i) false = l.getD i false) → ∀ i, i ∈ Region.ready .any ops.toArray l → i < ops.length ∧ idxN π i ∈ Region.ready .any (permOps π ops).toArray l' := by
    intro l l' hs hs' hr i hi
    rw [mem_ready] at hi ⊢
    obtain ⟨h0, o, ho, he⟩ := hi
    have ho' : ops[i]? = some o := by simpa using ho
    have hlt := (List.getElem?_eq_some_iff.1 ho').1
    refine ⟨hlt, ?_, moved π o, by simpa using permOps_get h ho', fun e hem hb => ?_⟩
    · rw [getD_true_false (by have := (hk i hlt).2.2.2; omega), hr i hlt, ← getD_true_false (by omega)]; exact h0
    · simp only [moved, List.mem_toArray, List.mem_map, Array.mem_toList_iff] at hem
      obtain ⟨e0, he0, rfl⟩ := hem
      have hlt0 := (hall o (List.mem_of_getElem? ho')).1 e0 he0
      rw [hr e0.on hlt0]
      exact he e0 he0 hb
  have back : ∀ {l l' : Array Bool}, l.size = ops.length → l'.size = ops.length → (∀ i, i < ops.length → l'.getD (idxN π i) false = l.getD i false) → Region.ready .any ops.toArray l = [] → Region.ready .any (permOps π ops).toArray l' = [] := by
    intro l l' hs hs' hr hnil
    rcases hx : Region.ready .any (permOps π ops).toArray l' with _ | ⟨k, t⟩
    · rfl
    · exfalso
      have hm : k ∈ Region.ready .any (permOps π ops).toArray l' := by rw [hx]; exact List.mem_cons_self ..
      rw [mem_ready] at hm
      obtain ⟨h0, o', ho', he⟩ := hm
      have hkl : k < ops.length := by have := (Array.getElem?_eq_some_iff.1 ho').1; simpa [hlen] using this
      obtain ⟨k1, k2, _, _⟩ := hk k hkl
      have ho : ops[nthN π k]? = some ops[nthN π k] := List.getElem?_eq_getElem k2
      have e2 := permOps_get h ho
      rw [k1] at e2
      have : o' = moved π ops[nthN π k] := by
        have ho'' : (permOps π ops)[k]? = some o' := by simpa using ho'
        rw [ho''] at e2; exact Option.some.inj e2
      subst this
      have : nthN π k ∈ Region.ready .any ops.toArray l := by
        rw [mem_ready]
        refine ⟨?_, ops[nthN π k], by rw [List.getElem?_toArray]; exact ho, fun e hem hb => ?_⟩
        · rw [getD_true_false (by omega), ← hr _ k2, k1, ← getD_true_false (by omega)]; exact h0
        · have hlt0 := (hall _ (List.getElem_mem k2)).1 e hem
          rw [← hr e.on hlt0]
          exact he { e with on := idxN π e.on } (by simp only [moved, List.mem_toArray, List.mem_map, Array.mem_toList_iff]; exact ⟨e, hem, rfl⟩) hb
      rw [hnil] at this
      cases this
  intro fuel
  induction fuel with
  | zero =>
    intro l l' a w hs hs' hr hw
    refine ⟨?_, hw.2⟩
    rcases hx : Region.ready .any ops.toArray l with _ | ⟨i, t⟩
    · rfl
    · have := (to hs hs' hr i (by rw [hx]; exact List.mem_cons_self ..)).2
      rw [hw.1] at this
      cases this
  | succ fuel ih =>
    intro l l' a w hs hs' hr hw
    refine ⟨fun hnil => hw.1 (back hs hs' hr hnil), fun i hi => ?_⟩
    obtain ⟨hin, hi'⟩ := to hs hs' hr i hi
    have step := hw.2 _ hi'
    have ho : ops[i]? = some ops[i] := List.getElem?_eq_getElem hin
    have e2 := permOps_get h ho
    have next : ∀ a w, wpAnyIn Fence.wide 0 P .any (permOps π ops).toArray Q fuel (l'.setIfInBounds (idxN π i) true) a w → wpAnyIn Fence.wide 0 P .any ops.toArray Q fuel (l.setIfInBounds i true) a w := fun a w hh =>
      ih _ _ a w (by simp [hs]) (by simp [hs']) (fun k hkl => by
        by_cases e : i = k
        · subst e
          have := (hk i hin).2.2.2
          simp [hs, hs', hin, this]
        · rw [getD_set_ne false e, getD_set_ne false (fun x => e ?_), hr k hkl]
          have h1 := (hk i hin).2.2.1
          have h2 := (hk k hkl).2.2.1
          rw [← h1, ← h2, x]) hh
    unfold wpOpIn at step ⊢
    have e3 : (permOps π ops).toArray[idxN π i]? = some (moved π ops[i]) := by simpa using e2
    have e4 : ops.toArray[i]? = some ops[i] := by rw [List.getElem?_toArray]; exact ho
    rw [e3] at step
    rw [e4]
    dsimp only at step ⊢
    rw [perm_wanted h (List.getElem_mem hin)] at step
    split
    · rename_i hwt
      rw [if_pos hwt] at step
      exact Oper.wpIn_mono next step
    · rename_i hwt
      rw [if_neg hwt] at step
      exact ⟨fun _ _ => trivial, next _ _ step.2⟩
end

/-! ### As the text tells it: a guard parts the way once -/
/-- What a guard looks at is a truth value. -/
def BoolV (v : Value) (K : Bool → Prop) : Prop := match v with | .bool b => K b | _ => False
def guardK (ops : List Oper) (g : Nat) (ρ : Env) (F : Env → Bool → Prop) (S : Prop) : Prop :=
  match guardSlot ops g with
  | none => S
  | some d => match ρ d with
    | .bool x => SplitB x (F (upd ρ d (.bool true)) true) (F (upd ρ d (.bool false)) false)
    | _ => S
def bindK (g : Bool) (K : Value → Prop) (v : Value) : Prop := match g with | true => BoolV v fun b => K (.bool b) | false => K v
def vcOpsT (P : Program) (ops : List Oper) (Q : Exit → Env → World → Prop) : List Oper → Nat → Env → World → Prop
  | [], _, ρ, w => Q .normal ρ w
  | o :: rest, i, ρ, w =>
    match o.guard with
    | none => opD P ρ o w (fun v w' => bindK (isGuard ops i) (fun v => vcOpsT P ops Q rest (i + 1) (updO ρ o.dst v) w') v) (fun c w' => Q (.panic c) ρ w')
    | some (g, b) => guardK ops g ρ (fun ρ y => match y == b with
        | true => opD P ρ o w (fun v w' => bindK (isGuard ops i) (fun v => vcOpsT P ops Q rest (i + 1) (updO ρ o.dst v) w') v) (fun c w' => Q (.panic c) ρ w')
        | false => vcOpsT P ops Q rest (i + 1) (updO ρ o.dst undef) w) (vcOpsT P ops Q rest (i + 1) (updO ρ o.dst undef) w)
def rgNode (P : Program) (g gm : Bool) (bef : Array Nat) (E : World → World → Prop) (Φ : Nat → Value → World → Prop) (w0 : World) (i : Nat) (F : List (Nat × Value)) (o : Oper) (ρ : Env) (K : Value → List (Nat × Value) → Prop) : Prop :=
  match quietOp o.op with
  | true => opQ P (fun w => E w0 w ∧ FactsB bef i Φ F w) ρ o (bindK g fun v => K v F)
  | false => match gm with
    | true => (∀ w, E w0 w → FactsB bef i Φ F w → opD P ρ o w (fun v w' => E w w' ∧ Φ i v w' ∧ ∃ b, v = .bool b) (fun _ _ => False)) ∧ ∀ b : Bool, K (.bool b) ((i, .bool b) :: F)
    | false => (∀ w, E w0 w → FactsB bef i Φ F w → opD P ρ o w (fun v w' => E w w' ∧ Φ i v w') (fun _ _ => False)) ∧ ∀ v : Value, K v ((i, v) :: F)
def rgT (P : Program) (ops : List Oper) (bef : Array Nat) (E : World → World → Prop) (Φ : Nat → Value → World → Prop) (w0 : World) (Q : Env → World → Prop) : List Oper → Nat → Env → List (Nat × Value) → Prop
  | [], _, ρ, F => ∀ w, E w0 w → Facts Φ F w → Q ρ w
  | o :: rest, i, ρ, F =>
    match o.guard with
    | none => rgNode P (isGuard ops i) (movedGuard ops i) bef E Φ w0 i F o ρ fun v F => rgT P ops bef E Φ w0 Q rest (i + 1) (updO ρ o.dst v) F
    | some (g, b) => guardK ops g ρ (fun ρ y => match y == b with
        | true => rgNode P (isGuard ops i) (movedGuard ops i) bef E Φ w0 i F o ρ fun v F => rgT P ops bef E Φ w0 Q rest (i + 1) (updO ρ o.dst v) F
        | false => rgT P ops bef E Φ w0 Q rest (i + 1) (updO ρ o.dst undef) F) (rgT P ops bef E Φ w0 Q rest (i + 1) (updO ρ o.dst undef) F)

theorem bindK_spec {g : Bool} {K : Value → Prop} {v : Value} (h : bindK g K v) : K v := by
  cases g with
  | false => exact h
  | true => cases v <;> first | exact h | exact (h : False).elim
theorem upd_self {ρ : Env} {d : Nat} {v : Value} (h : ρ d = v) : upd ρ d v = ρ := by
  funext t
  by_cases e : t = d
  · subst e; rw [upd_same, h]
  · exact upd_ne _ _ e
theorem guardK_spec {ops : List Oper} {o : Oper} {g : Nat} {b : Bool} (hg : o.guard = some (g, b)) {ρ : Env} {F : Env → Bool → Prop} {S : Prop} (h : guardK ops g ρ F S) :
    (wantE ops o ρ = true ∧ F ρ b) ∨ (wantE ops o ρ = false ∧ (S ∨ F ρ (!b))) := by
  unfold guardK at h
  unfold wantE
  rw [hg]
  dsimp only
  cases hs : guardSlot ops g with
  | none => rw [hs] at h; exact .inr ⟨rfl, .inl h⟩
  | some d =>
    rw [hs] at h
    dsimp only at h ⊢
    cases hv : ρ d with
    | bool x =>
      rw [hv] at h
      cases x with
      | true =>
        have h : F (upd ρ d (.bool true)) true := h
        rw [upd_self hv] at h
        cases b <;> simp [wantV, h]
      | false =>
        have h : F (upd ρ d (.bool false)) false := h
        rw [upd_self hv] at h
        cases b <;> simp [wantV, h]
    | _ => rw [hv] at h; exact .inr ⟨rfl, .inl h⟩


/-- The first 'd' operations hang on their operands alone, and no other one stands in their way. -/
def firstOk (ops : List Oper) (d : Nat) : Bool := (List.range d).all fun k => match ops[k]? with
  | none => false
  | some o => o.guard.isNone && quietOp o.op && (List.range ops.length).all fun j => Nat.ble j k || (match ops[j]? with
    | none => true
    | some p => (p.after.toList.any fun e => Region.binds .any e && Nat.beq e.on k) || o.apart ops.toArray p)
theorem firstOk_spec {ops : List Oper} {d : Nat} (h : firstOk ops d = true) {k : Nat} (hk : k < d) : ∃ o, ops[k]? = some o ∧ o.guard = none ∧ quietOp o.op = true ∧
    ∀ j p, k < j → ops[j]? = some p → (∀ e ∈ p.after, Region.binds .any e = true → e.on ≠ k) → o.apart ops.toArray p = true := by
  unfold firstOk at h
  have h1 := List.all_eq_true.1 h k (List.mem_range.2 hk)
  cases ho : ops[k]? with
  | none => simp [ho] at h1
  | some o =>
    simp only [ho, Bool.and_eq_true] at h1
    obtain ⟨⟨hg, hq⟩, hj⟩ := h1
    refine ⟨o, rfl, by simpa using hg, hq, fun j p hkj hp hne => ?_⟩
    have hjl := (List.getElem?_eq_some_iff.1 hp).1
    have := List.all_eq_true.1 hj j (List.mem_range.2 hjl)
    simp only [hp, Bool.or_eq_true, Nat.ble_eq] at this
    rcases this with h2 | h2
    · omega
    · rcases h2 with h2 | h2
      · exfalso
        rw [List.any_eq_true] at h2
        obtain ⟨e, he, hb⟩ := h2
        simp only [Bool.and_eq_true] at hb
        exact hne e (by simpa using he) hb.1 (Nat.eq_of_beq_eq_true hb.2)
      · exact h2

def pureT (P : Program) (ops : List Oper) : List Oper → Nat → Env → (Env → Prop) → Prop
  | [], _, ρ, K => K ρ
  | o :: rest, i, ρ, K => opQ P (fun _ => True) ρ o (bindK (isGuard ops i) fun v => pureT P ops rest (i + 1) (updO ρ o.dst v) K)

section
variable {P : Program} {ops : List Oper} {N d h : Nat} {DD : List Deferred} {bef : Array Nat} {ρ0 : Env} {K : Env → Prop} {Q' : Exit → Act → World → Prop} {w : World}

theorem pure_first (hd : firstOk ops d = true) (hdl : d ≤ ops.length) (hk : rgOk ops bef h d = true) (hdst : ops.all (dstOk N) = true) (hQ : ∀ (o : Oper), o ∈ ops → ∀ v c a w, Q' (.panic c) (a.put o.dst v) w → Q' (.panic c) a w)
    (Hd : ∀ (vs : Nat → Value) (listed : Array Bool) (a : Act), listed.size = ops.length → (∀ i, i < ops.length → listed.getD i false = decide (i < d)) →
      (∀ i o, i < d → ops[i]? = some o → ∀ w, (execOp (ev (lexEnv ops allD vs ρ0 i)) o).run P w = .ok (.value (vs i)) w) → K (lexEnv ops allD vs ρ0 d) → Agrees N DD a (lexEnv ops allD vs ρ0 d) →
      wpAnyIn Fence.wide 0 P .any ops.toArray Q' (ops.length - d) listed a w) :
    ∀ (m k : Nat) (vs : Nat → Value) (listed : Array Bool) (a : Act), k + m = d → listed.size = ops.length → (∀ i, i < ops.length → listed.getD i false = decide (i < k)) →
      (∀ i o, i < k → ops[i]? = some o → ∀ w, (execOp (ev (lexEnv ops allD vs ρ0 i)) o).run P w = .ok (.value (vs i)) w) → Agrees N DD a (lexEnv ops allD vs ρ0 k) →
      pureT P ops ((ops.take d).drop k) k (lexEnv ops allD vs ρ0 k) K → wpAnyIn Fence.wide 0 P .any ops.toArray Q' (ops.length - k) listed a w := by
  intro m
  induction m with
  | zero =>
    intro k vs listed a hkd hs hl hev ha hp
    have : k = d := by omega
    subst this
    rw [show (ops.take k).drop k = [] by simp] at hp
    exact Hd vs listed a hs hl hev hp ha
  | succ m ih =>
    intro k vs listed a hkd hs hl hev ha hp
    have hkn : k < ops.length := by omega
    have hkt : k < (ops.take d).length := by simp; omega
    obtain ⟨o, ho, hg, hq, hap⟩ := firstOk_spec hd (show k < d by omega)
    rw [List.drop_eq_getElem_cons hkt] at hp
    have e1 : (ops.take d)[k] = o := by
      have : ops[k]? = some ops[k] := List.getElem?_eq_getElem hkn
      rw [ho] at this
      simp [Option.some.inj this]
    rw [e1] at hp
    obtain ⟨v, hv, hrest⟩ := opQ_sound (o := o) hp
    have hrest := bindK_spec hrest
    have hoa : ops.toArray[k]? = some o := by rw [List.getElem?_toArray]; exact ho
    have hfuel : ops.length - k = (ops.length - (k + 1)) + 1 := by omega
    rw [hfuel]
    have hmem : o ∈ ops := List.mem_of_getElem? ho
    have hdo : ∀ x, o.dst = some x → x < N := fun x hx => by
      have := List.all_eq_true.1 hdst o hmem
      simp [dstOk, hx] at this
      exact this
    refine wpAnyIn_first (v := v) rfl hoa (fun j p cs b hp' e => ?_) (fun c a w => hQ o hmem v c a w) _ listed a w (fun j p hp' hjk hjl hne => ?_) ?_ ⟨.inl ⟨by simp [Region.wanted, hg], fun w => by rw [ha.eval_eq]; exact hv w trivial⟩, fun w => about_quiet hq w⟩ ?_
    · have := (rgOk_spec hk (show ops[j]? = some p by simpa using hp')).1
      rw [e] at this; simp [isSelect] at this
    · have hp2 : ops[j]? = some p := by simpa using hp'
      have hjn := (List.getElem?_eq_some_iff.1 hp2).1
      rw [getD_true_false (by omega), hl j hjn] at hjl
      have : k < j := by simp at hjl; omega
      exact hap j p this hp2 hne
    · rw [mem_ready]
      refine ⟨by rw [getD_true_false (by omega), hl k hkn]; simp, o, hoa, fun e he hb => ?_⟩
      have := ((rgOk_spec hk ho).2.1 e he hb).1
      rw [hl e.on (by omega)]; simp [this]
    · have hcg : ∀ j, j < k → (fun j => if j = k then v else vs j) j = vs j := fun j hj => if_neg (by omega)
      have henv : lexEnv ops allD (fun j => if j = k then v else vs j) ρ0 (k + 1) = updO (lexEnv ops allD vs ρ0 k) o.dst v := by
        rw [lexEnv_all, lexEnv_all_congr k hcg, ho, if_pos rfl]; rfl
      refine ih (k + 1) (fun j => if j = k then v else vs j) _ _ (by omega) (by simp [hs]) (fun i hi => ?_) (fun i p hi hp' w => ?_) (by rw [henv]; exact ha.put hdo v) (by rw [henv]; exact hrest)
      · by_cases e : k = i
        · subst e; simp [hs, hkn]
        · rw [getD_set_ne false e, hl i hi]; congr 1; simp; omega
      · by_cases e : i = k
        · subst e
          rw [ho] at hp'; cases hp'
          rw [lexEnv_all_congr i hcg, if_pos rfl]
          exact hv w trivial
        · rw [lexEnv_all_congr i (fun j hj => hcg j (by omega)), if_neg e]
          exact hev i p (by omega) hp' w
end

theorem vcOpsT_sound {P : Program} {ops : List Oper} {Q : Exit → Env → World → Prop} : ∀ (l : List Oper) (i : Nat) (ρ : Env) (w : World), vcOpsT P ops Q l i ρ w → vcOps P ops Q l ρ w
  | [], _, _, _, h => h
  | o :: rest, i, ρ, w, h => by
    unfold vcOpsT at h
    unfold vcOps
    have run : opD P ρ o w (fun v w' => bindK (isGuard ops i) (fun v => vcOpsT P ops Q rest (i + 1) (updO ρ o.dst v) w') v) (fun c w' => Q (.panic c) ρ w') → opD P ρ o w (fun v w' => vcOps P ops Q rest (updO ρ o.dst v) w') (fun c w' => Q (.panic c) ρ w') :=
      opD_mono (fun v w' hk => vcOpsT_sound rest _ _ _ (bindK_spec hk)) (fun _ _ hp => hp)
    cases hg : o.guard with
    | none => rw [hg] at h; exact run h
    | some gb =>
      obtain ⟨g, b⟩ := gb
      rw [hg] at h
      dsimp only at h ⊢
      rcases guardK_spec hg h with ⟨hw, hF⟩ | ⟨hw, hS⟩
      · rw [if_pos hw]
        have : (b == b) = true := by cases b <;> rfl
        rw [this] at hF
        exact run hF
      · rw [if_neg (by rw [hw]; exact Bool.false_ne_true)]
        rcases hS with hS | hS
        · exact vcOpsT_sound rest _ _ _ hS
        · have : ((!b) == b) = false := by cases b <;> rfl
          rw [this] at hS
          exact vcOpsT_sound rest _ _ _ hS

theorem rgT_sound {P : Program} {ops : List Oper} {bef : Array Nat} {E : World → World → Prop} {Φ : Nat → Value → World → Prop} {w0 : World} {Q Q' : Env → World → Prop} (hQ : ∀ ρ w, Q ρ w → Q' ρ w) : ∀ (l : List Oper) (i : Nat) (ρ : Env) (F : List (Nat × Value)),
    rgT P ops bef E Φ w0 Q l i ρ F → rg P ops bef E Φ w0 Q' l i ρ F
  | [], _, _, _, h => fun w hx hF => hQ _ _ (h w hx hF)
  | o :: rest, i, ρ, F, h => by
    unfold rgT at h
    unfold rg
    have run : rgNode P (isGuard ops i) (movedGuard ops i) bef E Φ w0 i F o ρ (fun v F => rgT P ops bef E Φ w0 Q rest (i + 1) (updO ρ o.dst v) F) → (match quietOp o.op with
        | true => opQ P (fun w => E w0 w ∧ FactsB bef i Φ F w) ρ o (fun v => rg P ops bef E Φ w0 Q' rest (i + 1) (updO ρ o.dst v) F)
        | false => (∀ w, E w0 w → FactsB bef i Φ F w → opD P ρ o w (fun v w' => E w w' ∧ Φ i v w' ∧ Bq ops i v) (fun _ _ => False)) ∧ ∀ v, Bq ops i v → rg P ops bef E Φ w0 Q' rest (i + 1) (updO ρ o.dst v) ((i, v) :: F)) := fun h => by
      unfold rgNode at h
      cases hq : quietOp o.op with
      | true => rw [hq] at h; exact opQ_mono (fun v h => rgT_sound hQ rest _ _ _ (bindK_spec h)) h
      | false =>
        rw [hq] at h
        dsimp only at h ⊢
        cases hgd : movedGuard ops i with
        | true =>
          rw [hgd] at h
          refine ⟨fun w hx hf => opD_mono (fun v w' ⟨h1, h2, h3⟩ => ⟨h1, h2, fun _ => h3⟩) (fun _ _ hp => hp) (h.1 w hx hf), fun v hb => ?_⟩
          obtain ⟨b, rfl⟩ := hb hgd
          exact rgT_sound hQ rest _ _ _ (h.2 b)
        | false =>
          rw [hgd] at h
          exact ⟨fun w hx hf => opD_mono (fun v w' ⟨h1, h2⟩ => ⟨h1, h2, fun e => by rw [hgd] at e; cases e⟩) (fun _ _ hp => hp) (h.1 w hx hf), fun v _ => rgT_sound hQ rest _ _ _ (h.2 v)⟩
    cases hg : o.guard with
    | none =>
      have hw : wantE ops o ρ = true := by simp [wantE, hg]
      rw [hg] at h
      rw [if_pos hw]
      exact run h
    | some gb =>
      obtain ⟨g, b⟩ := gb
      rw [hg] at h
      dsimp only at h
      rcases guardK_spec hg h with ⟨hw, hF⟩ | ⟨hw, hS⟩
      · rw [if_pos hw]
        have : (b == b) = true := by cases b <;> rfl
        rw [this] at hF
        exact run hF
      · rw [if_neg (by rw [hw]; exact Bool.false_ne_true)]
        rcases hS with hS | hS
        · exact rgT_sound hQ rest _ _ _ hS
        · have : ((!b) == b) = false := by cases b <;> rfl
          rw [this] at hS
          exact rgT_sound hQ rest _ _ _ hS

/-! ### Code -/
def writesOps (ops : List Oper) : List Nat := ops.filterMap (·.dst)
def writes : Code → List Nat
  | .region _ ops _ => writesOps ops.toList
  | .seq a b => writes a ++ writes b
  | .cond _ a b => writes a ++ writes b
  | .block _ c => writes c
  | .loop c => writes c
  | .scope c => writes c
  | _ => []
def key : Code → Nat
  | .region id _ _ => id
  | .seq a _ => key a
  | .block _ c => key c
  | .loop c => key c
  | .scope c => key c
  | _ => 0
def headK : List Oper → Nat
  | [] => 0
  | o :: l => if (quietOp o.op || (match o.op with
      | .alloc _ | .box .. | .buildSlice .. | .convert .. | .makeSlice .. | .makeMap .. => true
      | .call { callee := .value _, .. } => true
      | _ => false)) = true then headK l + 1 else 0
/-- Behind the last operation that is not in order with all before it, all go in order. -/
def headCut (bef : Array Nat) (d : Nat) : Nat → Nat
  | 0 => 0
  | h + 1 => if Nat.ble (h + 1) d = true then h + 1 else if ((List.range h).all fun j => Nat.blt j d || pre bef j h) = true then headCut bef d h else h + 1
def headN (d : Nat) (ops : List Oper) : Nat := headCut (preB ops) d (headK ops)
def regionOk (n : Nat) (pm : Option (List Nat × Nat)) (ops : List Oper) (draw : Bool) : Bool :=
  ops.all (dstOk n) && ops.all (fun o => match o.op with | .defer _ => false | _ => true) && (!draw || (match pm with
    | none => rgOk ops (preB ops) (headN 0 ops) && befOk ops (preB ops) && Nat.ble (headN 0 ops) ops.length
    | some (π, d) => permOk π ops && rgOk (permOps π ops) (preB (permOps π ops)) (headN d (permOps π ops)) d && befOk (permOps π ops) (preB (permOps π ops)) && Nat.ble (headN d (permOps π ops)) (permOps π ops).length &&
        Nat.ble d (headN d (permOps π ops)) && firstOk (permOps π ops) d && (permOps π ops).all (dstOk n)))
def codeOk (n : Nat) (prm : Nat → Option (List Nat × Nat)) : Code → Bool
  | .region id ops draw => regionOk n (prm id) ops.toList draw
  | .seq a b => codeOk n prm a && codeOk n prm b
  | .cond _ a b => codeOk n prm a && codeOk n prm b
  | .block _ c => codeOk n prm c
  | .loop c => codeOk n prm c
  | _ => true

def lookV : List Nat → List Value → Nat → Option Value
  | l :: L, x :: xs, t => bif Nat.beq t l then some x else lookV L xs t
  | _, _, _ => none
def memN : List Nat → Nat → Bool
  | [], _ => false
  | l :: L, t => bif Nat.beq t l then true else memN L t
/-- Slots that the code writes hold whatever; those of 'L' what is listed. -/
def mix (W L : List Nat) (xs : List Value) (j ρ : Env) : Env := fun t => match lookV L xs t with
  | some v => v
  | none => bif memN W t then j t else ρ t
def AllV : List Nat → (List Value → Prop) → Prop
  | [], F => F []
  | _ :: L, F => ∀ x, AllV L fun xs => F (x :: xs)
/-- What is asked behind a panic asks nothing of the frame. -/
def PQ (Q : Exit → Env → World → Prop) : Prop := ∀ c ρ ρ' w, Q (.panic c) ρ w → Q (.panic c) ρ' w
def rgW (P : Program) (ops : List Oper) (d : Nat) (Q : Exit → Env → World → Prop) (ρ : Env) (w : World) : Prop :=
  ∃ (E : World → World → Prop) (Φ : Nat → Value → World → Prop), Pre E ∧ (∀ i v w w', E w w' → Φ i v w → Φ i v w') ∧
    rgT P ops (preB ops) E Φ w.drew (fun ρ w => vcOpsT P ops Q (ops.drop (headN d ops)) (headN d ops) ρ w) ((ops.take (headN d ops)).drop d) d ρ []
def rgV (P : Program) (pm : Option (List Nat × Nat)) (ops : List Oper) (Q : Exit → Env → World → Prop) (ρ : Env) (w : World) : Prop :=
  match pm with
  | none => rgW P ops 0 Q ρ w
  | some (π, d) => pureT P (permOps π ops) ((permOps π ops).take d) 0 ρ fun ρ => rgW P (permOps π ops) d Q ρ w
def thenQ (K : Env → World → Prop) (Q : Exit → Env → World → Prop) : Exit → Env → World → Prop
  | .normal, ρ, w => K ρ w
  | e, ρ, w => Q e ρ w
def blockQ (id : Nat) (Q : Exit → Env → World → Prop) : Exit → Env → World → Prop
  | .exit id', ρ, w => if id' = id then Q .normal ρ w else Q (.exit id') ρ w
  | e, ρ, w => Q e ρ w

def vc (P : Program) (ann : Nat → List Nat × List Nat) (cut : Nat → Option (List Nat × List Nat)) (prm : Nat → Option (List Nat × Nat)) : Code → (Exit → Env → World → Prop) → Env → World → Prop
  | .skip, Q, ρ, w => Q .normal ρ w
  | .label _, Q, ρ, w => Q .normal ρ w
  | .exit id, Q, ρ, w => Q (.exit id) ρ w
  | .ret, Q, ρ, w => Q .ret ρ w
  | .region id ops draw, Q, ρ, w => match draw with
    | false => vcOpsT P ops.toList Q ops.toList 0 ρ w
    | true => rgV P (prm id) ops.toList Q ρ w
  | .seq a b, Q, ρ, w => match cut (key b) with
    | none => vc P ann cut prm a (thenQ (vc P ann cut prm b Q) Q) ρ w
    | some (L, W) => ∃ J : List Value → World → Prop, vc P ann cut prm a (thenQ (fun ρ' w' => J (L.map ρ') w') Q) ρ w ∧
        AllV L fun xs => ∀ (j : Env) (w' : World), J xs w' → vc P ann cut prm b Q (mix W L xs j ρ) w'
  | .cond c a b, Q, ρ, w => CondV (ev ρ c) (vc P ann cut prm a Q ρ w) (vc P ann cut prm b Q ρ w)
  | .block id c, Q, ρ, w => vc P ann cut prm c (blockQ id Q) ρ w
  | .loop c, Q, ρ, w => match ann (key c) with
    | (L, W) => ∃ I : Nat → List Value → World → Prop, (∃ m, I m (L.map ρ) w) ∧
      ∀ m, AllV L fun xs => ∀ (j : Env) (w' : World), I m xs w' →
        vc P ann cut prm c (thenQ (fun ρ' w' => ∃ m', m' < m ∧ I m' (L.map ρ') w') Q) (mix W L xs j ρ) w'
  | _, _, _, _ => False
/-- The lists of slots that are laid beside the code hold all that it writes. -/
def slotsOk (ann : Nat → List Nat × List Nat) (cut : Nat → Option (List Nat × List Nat)) : Code → Bool
  | .seq a b => slotsOk ann cut a && slotsOk ann cut b && (match cut (key b) with | none => true | some (_, W) => (writes a).all (memN W))
  | .cond _ a b => slotsOk ann cut a && slotsOk ann cut b
  | .block _ c => slotsOk ann cut c
  | .loop c => slotsOk ann cut c && (match ann (key c) with | (_, W) => (writes c).all (memN W))
  | _ => true

theorem AllV_apply : ∀ (L : List Nat) (F : List Value → Prop), AllV L F → ∀ xs : List Value, xs.length = L.length → F xs
  | [], F, h, xs, hl => by cases xs with | nil => exact h | cons _ _ => simp at hl
  | _ :: L, F, h, xs, hl => by
    cases xs with
    | nil => simp at hl
    | cons x xs => exact AllV_apply L _ (h x) xs (by simpa using hl)

theorem lookV_map (ρ : Env) (t : Nat) : ∀ L : List Nat, lookV L (L.map ρ) t = none ∨ lookV L (L.map ρ) t = some (ρ t)
  | [] => .inl rfl
  | l :: L => by
    simp only [List.map_cons, lookV]
    cases hb : Nat.beq t l with
    | true => have := Nat.eq_of_beq_eq_true hb; subst this; exact .inr rfl
    | false => exact lookV_map ρ t L
theorem memN_iff (t : Nat) : ∀ L : List Nat, memN L t = true ↔ t ∈ L
  | [] => by simp [memN]
  | l :: L => by
    simp only [memN, List.mem_cons]
    cases hb : Nat.beq t l with
    | true => simp [Nat.eq_of_beq_eq_true hb]
    | false =>
      have : t ≠ l := fun e => by subst e; simp at hb
      simp [this, memN_iff t L]
/-- A frame that parts from 'ρ' in what the code writes alone is such a mix. -/
theorem mix_self {W L : List Nat} {ρ ρ' : Env} (h : ∀ t, t ∉ W → ρ' t = ρ t) : mix W L (L.map ρ') ρ' ρ = ρ' := by
  funext t
  unfold mix
  rcases lookV_map ρ' t L with e | e
  · rw [e]
    dsimp only
    cases hm : memN W t with
    | true => rfl
    | false =>
      have : t ∉ W := fun x => by rw [(memN_iff t W).2 x] at hm; cases hm
      exact (h t this).symm
  · rw [e]

/-- Frames of functions and of rounds of loops over functions. -/
abbrev Fr (r : Option Nat) : Fence := { Fence.wide with round := r }
theorem semAt_nodefer {r : Option Nat} {ρ : Operand → Value} {o : Oper} (h : (match o.op with | .defer _ => false | _ => true) = true) : o.semAt r ρ = execOp ρ o :=
  Oper.semAt_eq r ρ o fun c e => by rw [e] at h; cases h
theorem list_round {r : Option Nat} {P : Program} {ops : Array Oper} {Q : Exit → Act → World → Prop} : ∀ (l : List Oper) (a : Act) (w : World), l.all (fun o => match o.op with | .defer _ => false | _ => true) = true →
    wpListIn Fence.wide 0 P ops Q l a w → wpListIn (Fr r) 0 P ops Q l a w
  | [], _, _, _, h => h
  | o :: rest, a, w, hd, h => by
    simp only [List.all_cons, Bool.and_eq_true] at hd
    unfold wpListIn at h ⊢
    split
    · rename_i hw
      rw [if_pos hw] at h
      have h2 := Oper.wpIn_mono (fun a w => list_round (r := r) rest a w hd.2) h
      unfold Oper.wpIn at h2 ⊢
      refine ⟨fun _ _ => trivial, ?_⟩
      rw [semAt_nodefer hd.1] at h2 ⊢
      exact h2.2
    · rename_i hw
      rw [if_neg hw] at h
      exact ⟨fun _ _ => trivial, list_round rest _ _ hd.2 h.2⟩
theorem any_round {r : Option Nat} {P : Program} {ops : List Oper} {Q : Exit → Act → World → Prop} (hd : ops.all (fun o => match o.op with | .defer _ => false | _ => true) = true) : ∀ (fuel : Nat) (listed : Array Bool) (a : Act) (w : World),
    wpAnyIn Fence.wide 0 P .any ops.toArray Q fuel listed a w → wpAnyIn (Fr r) 0 P .any ops.toArray Q fuel listed a w
  | 0, _, _, _, h => h
  | fuel + 1, listed, a, w, h => by
    refine ⟨h.1, fun i hi => ?_⟩
    have h2 := wpOpIn_mono (any_round (r := r) hd fuel _) (h.2 i hi)
    unfold wpOpIn at h2 ⊢
    cases ho : ops.toArray[i]? with
    | none => rw [ho] at h2; exact h2
    | some o =>
      rw [ho] at h2
      dsimp only at h2 ⊢
      have hdo := List.all_eq_true.1 hd o (List.mem_of_getElem? (show ops[i]? = some o by simpa using ho))
      split
      · rename_i hw
        rw [if_pos hw] at h2
        unfold Oper.wpIn at h2 ⊢
        refine ⟨fun _ _ => trivial, ?_⟩
        rw [semAt_nodefer hdo] at h2 ⊢
        exact h2.2
      · rename_i hw
        rw [if_neg hw] at h2
        exact ⟨fun _ _ => trivial, h2.2⟩

/-- What the frame is behind the code. -/
def Post (N : Nat) (DD : List Deferred) (W : List Nat) (ρ : Env) (Q : Exit → Env → World → Prop) (e : Exit) (a : Act) (w : World) : Prop :=
  ∃ ρ', Agrees N DD a ρ' ∧ (∀ t, t ∉ W → ρ' t = ρ t) ∧ Q e ρ' w

theorem updO_frame {W : List Nat} {ρ ρ0 : Env} (h : ∀ t, t ∉ W → ρ t = ρ0 t) {d : Option Nat} (hd : ∀ x, d = some x → x ∈ W) (v : Value) : ∀ t, t ∉ W → updO ρ d v t = ρ0 t := fun t ht => by
  rw [updO_ne (fun e => ht (hd t e))]; exact h t ht

theorem vcOps_frame {P : Program} {ops : List Oper} {W : List Nat} {ρ0 : Env} {Q : Exit → Env → World → Prop} : ∀ (l : List Oper) (ρ : Env) (w : World), (∀ o ∈ l, ∀ x, o.dst = some x → x ∈ W) → (∀ t, t ∉ W → ρ t = ρ0 t) →
    vcOps P ops Q l ρ w → vcOps P ops (fun e ρ w => (∀ t, t ∉ W → ρ t = ρ0 t) ∧ Q e ρ w) l ρ w
  | [], ρ, w, _, hf, h => ⟨hf, h⟩
  | o :: rest, ρ, w, hd, hf, h => by
    have hr := fun o ho => hd o (List.mem_cons_of_mem _ ho)
    have h0 := hd o (List.mem_cons_self ..)
    have step : opD P ρ o w (fun v w' => vcOps P ops Q rest (updO ρ o.dst v) w') (fun c w' => Q (.panic c) ρ w') →
        opD P ρ o w (fun v w' => vcOps P ops (fun e ρ w => (∀ t, t ∉ W → ρ t = ρ0 t) ∧ Q e ρ w) rest (updO ρ o.dst v) w') (fun c w' => (∀ t, t ∉ W → ρ t = ρ0 t) ∧ Q (.panic c) ρ w') :=
      opD_mono (fun v w' hk => vcOps_frame rest _ _ hr (updO_frame hf h0 v) hk) (fun c w' hp => ⟨hf, hp⟩)
    cases hg : o.guard with
    | none =>
      simp only [vcOps, hg] at h ⊢
      exact step h
    | some gb =>
      simp only [vcOps, hg] at h ⊢
      split
      · rename_i hx; rw [if_pos hx] at h; exact step h
      · rename_i hx; rw [if_neg hx] at h; exact vcOps_frame rest _ _ hr (updO_frame hf h0 undef) h

theorem rg_frame {P : Program} {ops : List Oper} {bef : Array Nat} {E : World → World → Prop} {Φ : Nat → Value → World → Prop} {w0 : World} {W : List Nat} {ρ0 : Env} {Q Q' : Env → World → Prop} (hQ : ∀ ρ w, (∀ t, t ∉ W → ρ t = ρ0 t) → Q ρ w → Q' ρ w) :
    ∀ (l : List Oper) (i : Nat) (ρ : Env) (F : List (Nat × Value)), (∀ o ∈ l, ∀ x, o.dst = some x → x ∈ W) → (∀ t, t ∉ W → ρ t = ρ0 t) → rg P ops bef E Φ w0 Q l i ρ F → rg P ops bef E Φ w0 Q' l i ρ F
  | [], i, ρ, F, _, hf, h => fun w hx hF => hQ _ _ hf (h w hx hF)
  | o :: rest, i, ρ, F, hd, hf, h => by
    have hr := fun o ho => hd o (List.mem_cons_of_mem _ ho)
    have h0 := hd o (List.mem_cons_self ..)
    unfold rg at h ⊢
    split
    · rename_i hx
      rw [if_pos hx] at h
      cases hq : quietOp o.op with
      | true =>
        rw [hq] at h
        exact opQ_mono (fun v h => rg_frame hQ rest _ _ _ hr (updO_frame hf h0 v) h) h
      | false =>
        rw [hq] at h
        exact ⟨h.1, fun v hb => rg_frame hQ rest _ _ _ hr (updO_frame hf h0 v) (h.2 v hb)⟩
    · rename_i hx
      rw [if_neg hx] at h
      exact rg_frame hQ rest _ _ _ hr (updO_frame hf h0 undef) h

theorem rgW_sound {P : Program} {N d : Nat} {DD : List Deferred} {ops : List Oper} {Q : Exit → Env → World → Prop} {Q' : Exit → Act → World → Prop} {W : List Nat} {ρ0 : Env} {w : World} (hdh : d ≤ headN d ops) (hk : rgOk ops (preB ops) (headN d ops) d = true) (hb : befOk ops (preB ops) = true)
    (hle : headN d ops ≤ ops.length) (hdst : ops.all (dstOk N) = true) (hW : ∀ o ∈ ops, ∀ x, o.dst = some x → x ∈ W) (hQ : ∀ e a ρ' w, Agrees N DD a ρ' → ((∀ t, t ∉ W → ρ' t = ρ0 t) ∧ Q e ρ' w) → Q' e a w) (hq0 : ∀ i o, i < d → ops[i]? = some o → quietOp o.op = true) (hg0 : ∀ i o, i < d → ops[i]? = some o → o.guard = none)
    (vs : Nat → Value) (listed : Array Bool) (a : Act) (hs : listed.size = ops.length) (hl : ∀ i, i < ops.length → listed.getD i false = decide (i < d))
    (hev : ∀ i o, i < d → ops[i]? = some o → ∀ w, (execOp (ev (lexEnv ops allD vs ρ0 i)) o).run P w = .ok (.value (vs i)) w) (hr : rgW P ops d Q (lexEnv ops allD vs ρ0 d) w) (ha : Agrees N DD a (lexEnv ops allD vs ρ0 d)) :
    wpAnyIn Fence.wide 0 P .any ops.toArray Q' (ops.length - d) listed a w.drew := by
  obtain ⟨E, Φ, hE, hmono, hr⟩ := hr
  have hr := rgT_sound (Q' := fun ρ w => vcOps P ops Q (ops.drop (headN d ops)) ρ w) (fun ρ w h => vcOpsT_sound _ _ _ _ h) _ _ _ _ hr
  have hframe : ∀ k, k ≤ ops.length → ∀ t, t ∉ W → lexEnv ops allD vs ρ0 k t = ρ0 t := by
    intro k
    induction k with
    | zero => intro _ t _; rfl
    | succ k ih =>
      intro hk' t ht
      rw [lexEnv_all]
      have ho : ops[k]? = some ops[k] := List.getElem?_eq_getElem (by omega)
      rw [ho]
      dsimp only [Option.bind_some]
      rw [updO_ne fun e => ht (hW _ (List.getElem_mem (by omega)) t e)]
      exact ih (by omega) t ht
  have T := rg_frame (W := W) (ρ0 := ρ0) (Q' := fun ρ' w => vcOps P ops (fun e ρ' w => (∀ t, t ∉ W → ρ' t = ρ0 t) ∧ Q e ρ' w) (ops.drop (headN d ops)) ρ' w)
    (fun ρ' w hf hv => vcOps_frame _ ρ' w (fun o ho => hW o (List.mem_of_mem_drop ho)) hf hv) _ _ _ _ (fun o ho => hW o (List.mem_of_mem_take (List.mem_of_mem_drop ho))) (hframe d (by omega)) hr
  have hdn : d ≤ ops.length := by omega
  have hin : ∀ i, listed.getD i false = true → i < d := fun i hx => by
    rcases Nat.lt_or_ge i ops.length with h1 | h1
    · rw [hl i h1] at hx; simpa using hx
    · rw [show listed.getD i false = false by simp [Array.getD, Nat.not_lt.2 (hs ▸ h1)]] at hx; cases hx
  have hnog : ∀ i, i < d → ¬ isGrow ops ρ0 vs i := fun i hi ⟨p, hp, _, hpq⟩ => by rw [hq0 i p hi hp] at hpq; cases hpq
  have hlex : ∀ k, k ≤ ops.length → lexEnv ops (fun i => listed.getD i false) vs ρ0 k = lexEnv ops allD vs ρ0 (min k d) := by
    intro k
    induction k with
    | zero => intro _; simp [lexEnv]
    | succ k ih =>
      intro hk'
      have ih := ih (by omega)
      by_cases hkd : k < d
      · rw [lexEnv_on (D := fun i => listed.getD i false) (by rw [hl k (by omega)]; simp [hkd]), ih, show min k d = k by omega, show min (k + 1) d = k + 1 by omega, lexEnv_all]
      · rw [lexEnv_off (D := fun i => listed.getD i false) (by rw [hl k (by omega)]; simp [hkd]), ih, show min k d = d by omega, show min (k + 1) d = d by omega]
  refine rg_main hdh hk hb hle hQ hdst hE hmono vs hq0 T (ops.length - d) listed vs a _ hs (fun i hi => by rw [hl i (by omega)]; simp [hi]) (fun i hx => by have := hin i hx; omega) ?_ ⟨fun i j hi hj hx hp => ?_, hE.refl _, fun i _ hx hg => absurd hg (hnog i (hin i hx)), fun i o ho hx _ _ => ⟨w.drew, hE.refl _, fun j hj _ hg => absurd hg (hnog j (by have := hin i hx; omega)), hev i o (hin i hx) ho _⟩, fun i o ho hx hwn => ?_⟩ ?_ (fun _ _ => rfl)
  · have h1 : ∀ n, n ≤ ops.length → cnt n listed ≤ n - d := by
      intro n
      induction n with
      | zero => intro _; exact Nat.zero_le _
      | succ n ih =>
        intro hn
        have ih := ih (by omega)
        unfold cnt at ih ⊢
        rw [List.range_succ, List.countP_append]
        simp only [List.countP_cons, List.countP_nil]
        rw [hl n (by omega)]
        by_cases hnd : n < d
        · have : (!decide (n < d)) = false := by simp [hnd]
          rw [this]
          simp only [Bool.false_eq_true, if_false]
          omega
        · have : (!decide (n < d)) = true := by simp [hnd]
          rw [this]
          simp only [if_true]
          omega
    exact h1 _ (Nat.le_refl _)
  · have h1 := hin i hx
    have := pre_lt hk hb j hj i hi hp
    rw [hl j hj]; simp; omega
  · simp [wantE, hg0 i o (hin i hx) ho] at hwn
  · rw [hlex _ (Nat.le_refl _), show min ops.length d = d by omega]; exact ha

theorem region_sound {P : Program} {N id : Nat} {r : Option Nat} {DD : List Deferred} {pm : Option (List Nat × Nat)} {ops : List Oper} {draw : Bool} {Q : Exit → Env → World → Prop} {a : Act} {ρ : Env} {w : World} (hm : P.follows .mixedOrders = true) (hok : regionOk N pm ops draw = true) (hpq : PQ Q) (ha : Agrees N DD a ρ)
    (h : match draw with | false => vcOpsT P ops Q ops 0 ρ w | true => rgV P pm ops Q ρ w) : (Code.region id ops.toArray draw).wpIn (Fr r) 0 P (Post N DD (writesOps ops) ρ Q) a w := by
  unfold regionOk at hok
  simp only [Bool.and_eq_true] at hok
  obtain ⟨⟨hdst, hnd⟩, hdraw⟩ := hok
  have hW : ∀ o ∈ ops, ∀ x, o.dst = some x → x ∈ writesOps ops := fun o ho x hx => List.mem_filterMap.2 ⟨o, ho, hx⟩
  have hQ : ∀ e a ρ' w, Agrees N DD a ρ' → ((∀ t, t ∉ writesOps ops → ρ' t = ρ t) ∧ Q e ρ' w) → Post N DD (writesOps ops) ρ Q e a w := fun e a ρ' w ha h => ⟨ρ', ha, h.1, h.2⟩
  cases draw with
  | false => exact wpIn_region_lit (list_round ops a w hnd (vcOps_sound hQ ops a ρ w hdst ha (vcOps_frame ops ρ w hW (fun _ _ => rfl) (vcOpsT_sound _ _ _ _ h))))
  | true =>
    simp only [Bool.not_true, Bool.false_or] at hdraw
    refine wpIn_region_any hm (any_round hnd _ _ _ _ ?_)
    rw [List.size_toArray]
    have hrep : ∀ i, (Array.replicate ops.length false).getD i false = false := fun i => by
      simp only [Array.getD_eq_getD_getElem?, Array.getElem?_replicate]; split <;> rfl
    cases pm with
    | none =>
      simp only [Bool.and_eq_true] at hdraw
      obtain ⟨⟨hk, hb⟩, hle⟩ := hdraw
      exact rgW_sound (d := 0) (Nat.zero_le _) hk hb (Nat.le_of_ble_eq_true hle) hdst hW hQ (fun i _ hi => absurd hi (Nat.not_lt_zero i)) (fun i _ hi => absurd hi (Nat.not_lt_zero i)) (fun _ => undef) _ a (by simp) (fun i _ => by rw [hrep i]; rfl) (fun i _ hi => absurd hi (Nat.not_lt_zero i)) h ha
    | some pd =>
      obtain ⟨π, d⟩ := pd
      simp only [Bool.and_eq_true] at hdraw
      obtain ⟨⟨⟨⟨⟨⟨hperm, hk⟩, hb⟩, hle⟩, hdh⟩, hfst⟩, hdst'⟩ := hdraw
      have hlen := permOps_length hperm
      have hdh := Nat.le_of_ble_eq_true hdh
      have hle := Nat.le_of_ble_eq_true hle
      have hmem : ∀ o ∈ permOps π ops, ∀ x, o.dst = some x → x ∈ writesOps ops := fun o ho x hx => by
        unfold permOps at ho
        obtain ⟨i, _, rfl⟩ := List.mem_map.1 ho
        have hx : (nthO ops i).dst = some x := hx
        unfold nthO at hx
        cases hi : ops[i]? with
        | none => rw [hi] at hx; cases hx
        | some p => rw [hi] at hx; exact hW p (List.mem_of_getElem? hi) x hx
      refine wpAny_perm hperm _ _ (Array.replicate ops.length false) a _ (by simp) (by simp) (fun i _ => by rw [hrep, hrep]) ?_
      have := pure_first (Q' := Post N DD (writesOps ops) ρ Q) (w := w.drew) (N := N) hfst (by omega) hk hdst' (fun o ho v c a w' hp => ?_)
        (fun vs listed a hs hl hev hK ha => rgW_sound hdh hk hb hle hdst' hmem hQ (fun i o hi ho => by obtain ⟨p, hp, _, hq, _⟩ := firstOk_spec hfst hi; rw [ho] at hp; cases hp; exact hq) (fun i o hi ho => by obtain ⟨p, hp, hg, _, _⟩ := firstOk_spec hfst hi; rw [ho] at hp; cases hp; exact hg) vs listed a hs hl hev hK ha) d 0 (fun _ => undef) (Array.replicate ops.length false) a (by omega) (by simp [hlen]) (fun i _ => by rw [hrep]; rfl) (fun i _ hi => absurd hi (Nat.not_lt_zero i)) ha h
      · rwa [Nat.sub_zero, hlen] at this
      · obtain ⟨ρ', h1, h2, h3⟩ := hp
        refine ⟨fun t => a.tmps.getD t undef, ⟨by have := h1.defers; cases hd : o.dst <;> rw [hd] at this <;> exact this, ?_, fun _ => rfl⟩, fun t ht => ?_, hpq _ _ _ _ h3⟩
        · have := h1.size
          cases hd : o.dst with
          | none => rw [hd] at this; exact this
          | some x => rw [hd] at this; simpa [Act.put] using this
        · rw [← h2 t ht, ← h1.at_ t]
          cases hd : o.dst with
          | none => rfl
          | some x =>
            have hne : x ≠ t := fun e => ht (e ▸ hmem o ho x hd)
            simp [Act.put, Array.getElem?_setIfInBounds_ne hne]

theorem Post.mono {N : Nat} {DD : List Deferred} {W W' : List Nat} {ρ : Env} {Q Q' : Exit → Env → World → Prop} {e : Exit} {a : Act} {w : World} (hW : ∀ t, t ∈ W → t ∈ W') (hQ : ∀ ρ', Q e ρ' w → Q' e ρ' w) (h : Post N DD W ρ Q e a w) : Post N DD W' ρ Q' e a w :=
  let ⟨ρ', h1, h2, h3⟩ := h
  ⟨ρ', h1, fun t ht => h2 t fun x => ht (hW t x), hQ _ h3⟩

theorem PQ.then {Q : Exit → Env → World → Prop} (h : PQ Q) (K : Env → World → Prop) : PQ (thenQ K Q) := fun c ρ ρ' w hq => h c ρ ρ' w hq
theorem PQ.block {Q : Exit → Env → World → Prop} (h : PQ Q) (id : Nat) : PQ (blockQ id Q) := fun c ρ ρ' w hq => h c ρ ρ' w hq

theorem wpIn_loop_ghost {F : Fence} {n : Nat} {P : Program} {Q : Exit → Act → World → Prop} {a : Act} {w : World} {c : Code} (I : Nat → Act → World → Prop) (n₀ : Nat) (h₀ : I n₀ a w)
    (round : ∀ m a w, I m a w → c.wpIn F n P (Exit.then (fun a' w' => ∃ m', m' < m ∧ I m' a' w') Q) a w) : (Code.loop c).wpIn F n P Q a w := by
  refine wpIn_loop (fun a w => ∃ m, I m a w) (fun a w => leastOf (fun m => I m a w)) ⟨n₀, h₀⟩ ?_
  intro a w hI
  refine wpIn_mono (round _ a w (leastOf_spec hI).1) ?_
  intro e a' w' hq
  cases e with
  | normal =>
    obtain ⟨m', hlt, hI'⟩ := hq
    exact show (∃ m, I m a' w') ∧ leastOf (fun m => I m a' w') < leastOf (fun m => I m a w) from ⟨⟨m', hI'⟩, Nat.lt_of_le_of_lt ((leastOf_spec ⟨m', hI'⟩).2 m' hI') hlt⟩
  | _ => exact hq

theorem vc_sound {P : Program} {N : Nat} {r : Option Nat} {DD : List Deferred} {ann : Nat → List Nat × List Nat} {cut : Nat → Option (List Nat × List Nat)} {prm : Nat → Option (List Nat × Nat)} (hm : P.follows .mixedOrders = true) : ∀ (c : Code) (Q : Exit → Env → World → Prop) (a : Act) (ρ : Env) (w : World), codeOk N prm c = true → slotsOk ann cut c = true → PQ Q → Agrees N DD a ρ →
    vc P ann cut prm c Q ρ w → c.wpIn (Fr r) 0 P (Post N DD (writes c) ρ Q) a w := by
  intro c
  induction c with
  | skip => exact fun Q a ρ w _ _ _ ha h => wpIn_skip ⟨ρ, ha, fun _ _ => rfl, h⟩
  | label l => exact fun Q a ρ w _ _ _ ha h => wpIn_label ⟨ρ, ha, fun _ _ => rfl, h⟩
  | exit id => exact fun Q a ρ w _ _ _ ha h => wpIn_exit ⟨ρ, ha, fun _ _ => rfl, h⟩
  | ret => exact fun Q a ρ w _ _ _ ha h => wpIn_ret ⟨ρ, ha, fun _ _ => rfl, h⟩
  | region id ops draw =>
    intro Q a ρ w hok hso hpq ha h
    have := region_sound (r := r) (id := id) (Q := Q) (w := w) hm hok hpq ha (by cases draw <;> exact h)
    simpa [writes] using this
  | seq x y ihx ihy =>
    intro Q a ρ w hok hso hpq ha h
    simp only [codeOk, Bool.and_eq_true] at hok
    simp only [slotsOk, Bool.and_eq_true] at hso
    obtain ⟨⟨hsx, hsy⟩, hsw⟩ := hso
    have fin : ∀ {ρ1 : Env}, (∀ t, t ∉ writes x → ρ1 t = ρ t) → ∀ e a w, Post N DD (writes y) ρ1 Q e a w → Post N DD (writes (x.seq y)) ρ Q e a w := fun hf e a w ⟨ρ', h1, h2, h3⟩ =>
      ⟨ρ', h1, fun t ht => by simp only [writes, List.mem_append, not_or] at ht; rw [h2 t ht.2, hf t ht.1], h3⟩
    have other : ∀ (K : Env → World → Prop) e a w, e ≠ Exit.normal → Post N DD (writes x) ρ (thenQ K Q) e a w → Post N DD (writes (x.seq y)) ρ Q e a w := fun K e a w hne hp =>
      Post.mono (fun t ht => by simp [writes, ht]) (fun ρ' hq => by cases e <;> first | exact hq | exact absurd rfl hne) hp
    refine wpIn_seq ?_
    unfold vc at h
    cases hc : cut (key y) with
    | none =>
      rw [hc] at h
      refine wpIn_mono (ihx _ a ρ w hok.1 hsx (hpq.then _) ha h) fun e a' w' hp => ?_
      cases e with
      | normal =>
        obtain ⟨ρ1, h1, h2, h3⟩ := hp
        exact wpIn_mono (ihy Q a' ρ1 w' hok.2 hsy hpq h1 h3) fun e a w => fin h2 e a w
      | _ => exact other _ _ _ _ (by simp) hp
    | some LW =>
      obtain ⟨L, W⟩ := LW
      rw [hc] at h hsw
      obtain ⟨J, hx, hy⟩ := h
      refine wpIn_mono (ihx _ a ρ w hok.1 hsx (hpq.then _) ha hx) fun e a' w' hp => ?_
      cases e with
      | normal =>
        obtain ⟨ρ1, h1, h2, h3⟩ := hp
        have := AllV_apply L _ hy (L.map ρ1) (by simp) ρ1 w' h3
        rw [mix_self fun t ht => h2 t fun x => ht ((memN_iff t W).1 (List.all_eq_true.1 hsw t x))] at this
        exact wpIn_mono (ihy Q a' ρ1 w' hok.2 hsy hpq h1 this) fun e a w => fin h2 e a w
      | _ => exact other _ _ _ _ (by simp) hp
  | cond v x y ihx ihy =>
    intro Q a ρ w hok hso hpq ha h
    simp only [codeOk, Bool.and_eq_true] at hok
    simp only [slotsOk, Bool.and_eq_true] at hso
    unfold vc CondV at h
    cases hv : ev ρ v with
    | bool b =>
      rw [hv] at h
      refine wpIn_cond (t := b) (by rw [ha.eval]; exact hv) ?_
      cases b with
      | true => exact wpIn_mono (ihx Q a ρ w hok.1 hso.1 hpq ha h) fun e a w => Post.mono (fun t ht => by simp [writes, ht]) (fun _ hq => hq)
      | false => exact wpIn_mono (ihy Q a ρ w hok.2 hso.2 hpq ha h) fun e a w => Post.mono (fun t ht => by simp [writes, ht]) (fun _ hq => hq)
    | _ => rw [hv] at h; exact h.elim
  | block id x ih =>
    intro Q a ρ w hok hso hpq ha h
    refine wpIn_block (wpIn_mono (ih _ a ρ w hok hso (hpq.block _) ha h) fun e a' w' ⟨ρ', h1, h2, h3⟩ => ?_)
    cases e with
    | exit id' =>
      simp only [Exit.inBlock, blockQ] at h3 ⊢
      split
      · rename_i hid; rw [if_pos hid] at h3; exact ⟨ρ', h1, h2, h3⟩
      · rename_i hid; rw [if_neg hid] at h3; exact ⟨ρ', h1, h2, h3⟩
    | _ => exact ⟨ρ', h1, h2, h3⟩
  | loop x ih =>
    intro Q a ρ w hok hso hpq ha h
    unfold vc at h
    simp only [slotsOk, Bool.and_eq_true] at hso
    obtain ⟨hsx, hsw⟩ := hso
    generalize ann (key x) = LW at h hsw
    obtain ⟨L, W⟩ := LW
    obtain ⟨I, ⟨m0, h0⟩, hround⟩ := h
    refine wpIn_loop_ghost (fun m a w => ∃ ρ', Agrees N DD a ρ' ∧ (∀ t, t ∉ writes x → ρ' t = ρ t) ∧ I m (L.map ρ') w) m0 ⟨ρ, ha, fun _ _ => rfl, h0⟩ ?_
    rintro m a' w' ⟨ρ', h1, h2, h3⟩
    have := AllV_apply _ _ (hround m) (L.map ρ') (by simp) ρ' w' h3
    rw [mix_self fun t ht => h2 t fun x => ht ((memN_iff t W).1 (List.all_eq_true.1 hsw t x))] at this
    refine wpIn_mono (ih _ a' ρ' w' hok hsx (hpq.then _) h1 this) fun e a w ⟨ρ1, k1, k2, k3⟩ => ?_
    have k2' : ∀ t, t ∉ writes x → ρ1 t = ρ t := fun t ht => by rw [k2 t ht, h2 t ht]
    cases e with
    | normal =>
      obtain ⟨m', hlt, hI⟩ := k3
      exact ⟨m', hlt, ρ1, k1, k2', hI⟩
    | _ => exact ⟨ρ1, k1, k2', k3⟩
  | rangeFunc f ps x y => exact fun Q a ρ w _ _ _ _ h => h.elim
  | scope x => exact fun Q a ρ w _ _ _ _ h => h.elim
  | goto l => exact fun Q a ρ w _ _ _ _ h => h.elim
  | refuse s => exact fun Q a ρ w _ _ _ _ h => h.elim

/-! ### Functions -/
def resE (rs : Array ResultVar) (ρ : Env) : Sem Value := do
  let vs ← rs.mapM fun
    | .tmp t => pure (ρ t)
    | .cell a t => do loadVar t (← asAddr (ρ a))
  pure (if h : vs.size = 1 then vs[0] else .tuple vs)
theorem results_agrees {N : Nat} {DD : List Deferred} {a : Act} {ρ : Env} (ha : Agrees N DD a ρ) (fn : Func) : results fn a.tmps = resE fn.results ρ := by
  have e : (fun t => a.tmps.getD t undef) = ρ := funext ha.at_
  subst e
  rfl
/-- Several results, or results that lie in cells. -/
def resVals (P : Program) (w : World) : List (Value ⊕ (Value × TypeId)) → List Value → Prop
  | [], [] => True
  | .inl v :: ps, x :: xs => x = v ∧ resVals P w ps xs
  | .inr (a, t) :: ps, x :: xs => (∃ ad, a = .pointer (some ad) ∧ (loadVar t ad).run P w = .ok x w) ∧ resVals P w ps xs
  | _, _ => False
def tup : List Value → Value
  | [x] => x
  | xs => .tuple xs.toArray
def ResV (P : Program) (ps : List (Value ⊕ (Value × TypeId))) (w : World) (R : Ending → World → Prop) : Prop := ∃ xs, resVals P w ps xs ∧ R (.returned (tup xs)) w
def resParts (ρ : Env) : List ResultVar → List (Value ⊕ (Value × TypeId))
  | [] => []
  | .tmp t :: rs => .inl (ρ t) :: resParts ρ rs
  | .cell a t :: rs => .inr (ρ a, t) :: resParts ρ rs
def resK (P : Program) (rs : List ResultVar) (ρ : Env) (w : World) (R : Ending → World → Prop) : Prop :=
  match rs with
  | [] => R (.returned (.tuple #[])) w
  | [.tmp t] => R (.returned (ρ t)) w
  | [.tmp t, .tmp u] => R (.returned (.tuple #[ρ t, ρ u])) w
  | [.tmp t, .tmp u, .tmp v] => R (.returned (.tuple #[ρ t, ρ u, ρ v])) w
  | rs => ResV P (resParts ρ rs) w R

theorem sem_bind_pure {α : Type} (s : Sem α) : s.bind Sem.pure = s := by
  induction s with
  | pure a => rfl
  | halt h => rfl
  | load m a k ih => simp only [Sem.bind]; congr 1; funext v; exact ih v
  | store m a v k ih => simp only [Sem.bind]; congr 1
  | new o k ih => simp only [Sem.bind]; congr 1; funext v; exact ih v
  | shape r k ih => simp only [Sem.bind]; congr 1; funext v; exact ih v
  | freeze a n k ih => simp only [Sem.bind]; congr 1
  | frozen a k ih => simp only [Sem.bind]; congr 1; funext v; exact ih v
  | getObj r k ih => simp only [Sem.bind]; congr 1; funext v; exact ih v
  | setObj r o k ih => simp only [Sem.bind]; congr 1
  | choose q k ih => simp only [Sem.bind]; congr 1; funext v; exact ih v
  | sys c k ih => simp only [Sem.bind]; congr 1; funext v; exact ih v
  | program k ih => simp only [Sem.bind]; congr 1; funext v; exact ih v
  | mark m k ih => simp only [Sem.bind]; congr 1
theorem sem_bind_assoc {α β γ : Type} (s : Sem α) (f : α → Sem β) (g : β → Sem γ) : (s.bind f).bind g = s.bind fun a => (f a).bind g := by
  induction s with
  | pure a => rfl
  | halt h => rfl
  | load m a k ih => simp only [Sem.bind]; congr 1; funext v; exact ih v
  | store m a v k ih => simp only [Sem.bind]; congr 1
  | new o k ih => simp only [Sem.bind]; congr 1; funext v; exact ih v
  | shape r k ih => simp only [Sem.bind]; congr 1; funext v; exact ih v
  | freeze a n k ih => simp only [Sem.bind]; congr 1
  | frozen a k ih => simp only [Sem.bind]; congr 1; funext v; exact ih v
  | getObj r k ih => simp only [Sem.bind]; congr 1; funext v; exact ih v
  | setObj r o k ih => simp only [Sem.bind]; congr 1
  | choose q k ih => simp only [Sem.bind]; congr 1; funext v; exact ih v
  | sys c k ih => simp only [Sem.bind]; congr 1; funext v; exact ih v
  | program k ih => simp only [Sem.bind]; congr 1; funext v; exact ih v
  | mark m k ih => simp only [Sem.bind]; congr 1
theorem lawfulSem : LawfulMonad Sem := LawfulMonad.mk' (m := Sem) (id_map := fun x => sem_bind_pure x) (pure_bind := fun _ _ => rfl) (bind_assoc := fun s f g => sem_bind_assoc s f g)
def readRes (ρ : Env) : ResultVar → Sem Value
  | .tmp t => pure (ρ t)
  | .cell a t => do loadVar t (← asAddr (ρ a))
theorem resVals_spec {P : Program} {ρ : Env} {w : World} : ∀ (rs : List ResultVar) (xs : List Value), resVals P w (resParts ρ rs) xs → (rs.mapM (readRes ρ)).run P w = .ok xs w
  | [], xs, h => by
    cases xs with
    | nil => rfl
    | cons _ _ => exact h.elim
  | r :: rs, xs, h => by
    have := lawfulSem
    rw [List.mapM_cons]
    cases r with
    | tmp t =>
      cases xs with
      | nil => exact h.elim
      | cons x xs =>
        obtain ⟨rfl, h⟩ := h
        have ih := resVals_spec rs xs h
        show (((rs.mapM (readRes ρ)).bind fun bs => Sem.pure (ρ t :: bs))).run P w = _
        rw [run_bind, ih]
        rfl
    | cell a t =>
      cases xs with
      | nil => exact h.elim
      | cons x xs =>
        obtain ⟨⟨ad, ha, hl⟩, h⟩ := h
        have ih := resVals_spec rs xs h
        have e : readRes ρ (.cell a t) = loadVar t ad := by
          show (asAddr (ρ a)).bind _ = _
          rw [ha]
          rfl
        rw [e]
        show ((loadVar t ad).bind fun b => (rs.mapM (readRes ρ)).bind fun bs => Sem.pure (b :: bs)).run P w = _
        rw [run_bind, hl]
        dsimp only
        rw [run_bind, ih]
        rfl
theorem ResV_spec {P : Program} {rs : List ResultVar} {ρ : Env} {w : World} {R : Ending → World → Prop} (h : ResV P (resParts ρ rs) w R) : ∃ v, (resE rs.toArray ρ).run P w = .ok v w ∧ R (.returned v) w := by
  obtain ⟨xs, hx, hR⟩ := h
  refine ⟨_, ?_, hR⟩
  have := lawfulSem
  have e : resE rs.toArray ρ = (rs.toArray.mapM (readRes ρ)).bind fun vs => Sem.pure (if h : vs.size = 1 then vs[0] else .tuple vs) := rfl
  rw [e, List.mapM_toArray]
  show ((((rs.mapM (readRes ρ)).bind fun l => Sem.pure l.toArray)).bind _).run P w = _
  rw [run_bind, run_bind, resVals_spec rs xs hx]
  show Result.ok _ w = _
  congr 1
  cases xs with
  | nil => rfl
  | cons x xs =>
    cases xs with
    | nil => rfl
    | cons y ys => simp [tup]
theorem resK_spec {P : Program} {rs : List ResultVar} {ρ : Env} {w : World} {R : Ending → World → Prop} (h : resK P rs ρ w R) : ∃ v, (resE rs.toArray ρ).run P w = .ok v w ∧ R (.returned v) w := by
  unfold resK at h
  split at h
  · exact ⟨_, by simp [resE], h⟩
  · exact ⟨_, by simp [resE], h⟩
  · exact ⟨_, by simp [resE], h⟩
  · exact ⟨_, by simp [resE], h⟩
  · exact ResV_spec h
def bodyQ (P : Program) (rs : List ResultVar) (R : Ending → World → Prop) : Exit → Env → World → Prop
  | .normal, ρ, w => resK P rs ρ w R
  | .ret, ρ, w => resK P rs ρ w R
  | .panic ch, _, w => R (.panicked ch) w
  | _, _, _ => False
def nthV : List Value → Env
  | [], _ => undef
  | v :: _, 0 => v
  | _ :: l, t + 1 => nthV l t

theorem nthV_getD : ∀ (l : List Value) (t : Nat), nthV l t = l.getD t undef
  | [], t => by simp [nthV]
  | v :: l, 0 => by simp [nthV]
  | v :: l, t + 1 => by simp [nthV, nthV_getD l t]

def bodyOf (fn : Func) : Code := match fn.body with | some c => c | none => .skip
theorem bodyC_some {fn : Func} (h : fn.body.isSome = true) : fn.body = some (bodyOf fn) := by
  unfold bodyOf
  cases hb : fn.body with
  | none => rw [hb] at h; cases h
  | some c => rfl
/-- How the printed text says it. -/
def pkR (R : Ending → World → Prop) : List PanicEntry → World → Prop := fun c w => R (.panicked c) w
def Nxt (I : Nat → List Value → World → Prop) (m : Nat) (xs : List Value) (w : World) : Prop := ∃ m', m' < m ∧ I m' xs w

theorem calls_of_vc {P : Program} {f : FuncId} {fn : Func} {c : Code} {args : List Value} {w : World} {R : Ending → World → Prop} {N : Nat} (ann : Nat → List Nat × List Nat) (cut : Nat → Option (List Nat × List Nat)) (prm : Nat → Option (List Nat × Nat))
    (hf : P.funcs[f]? = some fn) (hb : fn.body = some c) (hn : fn.ntmps = N) (hm : P.follows .mixedOrders = true) (hok : codeOk N prm c = true) (hso : slotsOk ann cut c = true) (hle : Nat.ble args.length N = true)
    (h : vc P ann cut prm c (bodyQ P fn.results.toList R) (nthV args) w) : Calls P f args.toArray w R := by
  have hle : args.length ≤ N := Nat.le_of_ble_eq_true hle
  refine calls_of_wp hf hb ?_
  have ha : Agrees N [] { tmps := args.toArray ++ Array.replicate (fn.ntmps - args.toArray.size) undef, defers := [] } (nthV args) := by
    refine ⟨rfl, by simp [hn]; omega, fun t => ?_⟩
    rw [nthV_getD]
    simp only [Array.getD_eq_getD_getElem?, List.getD_eq_getElem?_getD, Array.getElem?_append, List.size_toArray, List.getElem?_toArray]
    split
    · rfl
    · rename_i hlt
      rw [List.getElem?_eq_none (by omega), Array.getElem?_replicate]
      split <;> rfl
  refine wp_mono (wpIn_wide.1 (vc_sound (r := none) hm c _ _ _ w hok hso (fun _ _ _ _ h => h) ha h)) fun e a w ⟨ρ', h1, _, h3⟩ => ?_
  cases e with
  | normal =>
    obtain ⟨v, hv, hR⟩ := resK_spec h3
    exact ⟨h1.defers, v, by rw [results_agrees h1]; simpa using hv, hR⟩
  | ret =>
    obtain ⟨v, hv, hR⟩ := resK_spec h3
    exact ⟨h1.defers, v, by rw [results_agrees h1]; simpa using hv, hR⟩
  | panic ch => exact ⟨h1.defers, h3⟩
  | exit id => exact h3.elim
  | goto l => exact h3.elim
  | outgrown => exact h3.elim
end Go.Vc
