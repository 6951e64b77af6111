/- The engine, part H: regions. -/
import Derived.Test.YtgkcbhdpenmogaaDoorEngM
import Derived.TacticsIn
import Derived.OrdersIn
import Derived.RangeFuncLeaves
import Derived.RangeFuncRecord
import Derived.Sort.LoopGhostIn
import Derived.ScopeJumps
set_option linter.all false
namespace Go.Proofs.YtgkcbhdpenmogaaDoor.Eng

/-- an operation: where its value goes, its guard, whether it must leave all that stands as it is, the name of what it makes, what it does -/
structure AOp where
  d : Option Nat
  g : Option (Nat × Bool)
  q : Bool
  id : Nat
  o : AO
def isEff : AO → Bool
  | .alloc _ | .box _ _ | .bsl _ _ | .app _ _ _ _ | .st _ _ _ | .stb _ => true
  | _ => false
def put (st : St) (d : Option Nat) (v : AV) : St :=
  match d with
  | some d => ⟨(d, v) :: st.s, st.h⟩
  | none => st
/-- a call, on states: whatever it comes to, it comes back so that K holds -/
def acall (P : Program) (q : Bool) (st : St) (f : Nat) (args : List AE) (K : AV → St → Prop) : Prop :=
  ∀ (E : Env) (ρ : Loc) (a : Act) (w : World) (vs : Array Value), RelAt E ρ st a w → vs.size = args.length →
    (∀ (j : Nat) v x, vs[j]? = some v → args[j]? = some x → RV (XX E.X0 ρ st.h) w ρ v (ev st x) ∧ ∀ k, x = .t k → k < 2000000 ∧ v = a.tmps.getD k undef) →
    Calls P f vs w fun e w' => ∃ v ρ' st' av, e = .returned v ∧ RelAt E ρ' st' a w' ∧ RV (XX E.X0 ρ' st'.h) w' ρ' v av ∧ K av st' ∧ (q = true → Same w w')
/-- a call that stands under a guard: its result is told outright, nothing else turns -/
def acallG (P : Program) (q : Bool) (γ : Bool) (st : St) (f : Nat) (args : List AE) (K : AV → Prop) : Prop :=
  ∃ r, (γ = true → acall P q st f args fun v st' => v = r ∧ st' = st) ∧ K r
def grd (v : Option AV) (want : Bool) : Option Bool :=
  match v with
  | some (.bool β) => some (β == want)
  | some (.gd b (.bool β)) => some (b && (β == want))
  | some (.gd false .undef) => some false
  | _ => none
/-- a function that has a body, and one of the program's own -/
def callable (P : Program) (f : Nat) : Bool :=
  match P.funcs[f]? with
  | some fn => fn.body.isSome && fn.name != "runtime.NumGoroutine"
  | none => false
/-- a call of a function that is a value -/
def adyn (P : Program) (q : Bool) (st : St) (v : AV) (args : List AE) (K : AV → St → Prop) : Prop :=
  match v with
  | .lit (.func (.func f) xs ys) => (xs = #[] ∧ ys = #[]) ∧ callable P f = true ∧ acall P q st f args K
  | .clo f cs => callable P f = true ∧ acall P q st f (args ++ cs.map .c) K
  | _ => False
def aop1 (P : Program) (q : Bool) (st : St) (id : Nat) (o : AO) (K : AV → St → Prop) : Prop :=
  match o with
  | .call f args => acall P q st f args K
  | .dyn x args => adyn P q st (ev st x) args K
  | o => if isEff o then eff id st o K else aval true st o fun v => K v st
def aopG (P : Program) (q : Bool) (γ : Bool) (st : St) (o : AO) (K : AV → Prop) : Prop :=
  match o with
  | .call f args => acallG P q γ st f args K
  | o => aval γ st o K
def aops (P : Program) : List AOp → St → (St → Prop) → Prop
  | [], st, K => K st
  | ⟨d, none, q, id, o⟩ :: r, st, K => aop1 P q st id o fun v st' => aops P r (put st' d v) K
  | ⟨d, some (j, want), q, id, o⟩ :: r, st, K => match grd (sget st.s j) want with
    | some γ => (γ = false ∧ aops P r (put st d (.gd false .undef)) K) ∨ (γ = true ∧ aop1 P q st id o fun v st' => aops P r (put st' d (.gd true v)) K) ∨ aopG P q γ st o fun v => aops P r (put st d (.gd γ v)) K
    | none => False

def trO (P : Program) (B : Nat) (ops : Array Oper) (q : Bool) (o : Oper) : AOp := ⟨o.dst, o.guard.map fun (j, b) => (Nat.min (((ops[j]?).bind (·.dst)).getD 1000000) 1000000, b), q, B + o.dst.getD 0, trOp P o⟩
def noDf : Op → Bool
  | .defer _ => false
  | _ => true
def fits (N : Nat) (o : Oper) : Bool := noDf o.op && match o.dst with | some d => decide (d < N) | none => true
/- IN A ROUND OF A LOOP OVER AN ITERATOR, OR IN NONE -/
def rdF (r : Option Nat) : Fence := { Fence.wide with round := r }
theorem callsIn_rd {r : Option Nat} {n : Nat} {P : Program} {f : FuncId} {args : Array Value} {w : World} {R : Ending → World → Prop} (h : Calls P f args w R) : CallsIn (rdF r) n P f args w R := callsIn_wide.2 h
theorem rowsIn_rd {r : Option Nat} {n : Nat} {P : Program} {row : String} {args : Array Value} {w : World} {R : Value → World → Prop} (h : Rows P row args w R) : RowsIn (rdF r) n P row args w R :=
  fun c cs _ => let ⟨v, w', hr, s⟩ := h c cs; ⟨v, w', hr, (stepsIn_wide (P := P)).2 s⟩
theorem wp_in {P : Program} {o : Oper} {a : Act} {w : World} {K : Act → World → Prop} {Q : Exit → Act → World → Prop} (hnd : noDf o.op = true) {r : Option Nat} {n : Nat} (h : o.wp P a w K Q) : o.wpIn (rdF r) n P a w K Q := by
  refine ⟨fun _ _ => trivial, ?_⟩
  rw [Oper.semAt_eq _ _ _ (fun c e => by rw [e] at hnd; cases hnd)]
  unfold Oper.wp at h
  revert h
  generalize (execOp a.eval o).run P w = x
  intro h
  unfold Oper.upon at h
  split at h
  · exact h
  · exact h
  · exact h
  · exact ⟨fun h => (by cases h), callsIn_rd h⟩
  · exact ⟨fun h => (by cases h), rowsIn_rd h⟩
  · exact h
  · exact h.elim

section
variable {P : Program} {E : Env} {ρ : Loc} {st : St} {a : Act} {w : World}
theorem relAt_put (h : RelAt E ρ st a w) {d : Option Nat} (hd : ∀ k, d = some k → k < E.N) {v : Value} {av : AV} (hv : RV (XX E.X0 ρ st.h) w ρ v av) : RelAt E ρ (put st d av) (a.put d v) w := by
  cases d with
  | none => exact h
  | some d => exact h.put d (hd d rfl) hv
theorem strip_ex {γ : Bool} {v : AV} {K : AV → Prop} (h : strip γ v K) : ∃ x, K x := by
  unfold strip at h
  split at h
  · exact ⟨_, h.2⟩
  · exact ⟨_, h⟩
theorem evg_ex {γ : Bool} {x : AE} {K : AV → Prop} (h : evg γ st x K) : ∃ v, K v := strip_ex h
theorem bnd_ex {γ : Bool} {n : Nat} {lo hi : Option AE} {K : Nat → Nat → Prop} (h : bnd γ st n lo hi K) : ∃ l m, K l m := by
  unfold bnd at h
  split at h
  · exact ⟨_, _, h⟩
  · obtain ⟨v, h⟩ := evg_ex h
    split at h
    · exact ⟨_, _, h.2⟩
    · exact h.elim
  · obtain ⟨v, h⟩ := evg_ex h
    split at h
    · exact ⟨_, _, h.2⟩
    · exact h.elim
  · obtain ⟨v, h⟩ := evg_ex h
    obtain ⟨v', h⟩ := evg_ex h
    split at h
    · exact ⟨_, _, h.2⟩
    · exact h.elim
theorem abin_ex {γ : Bool} {op : BinOp} {x y : AV} {K : AV → Prop} (h : abin γ op x y K) : ∃ v, K v := by
  unfold abin at h
  split at h
  · cases op <;> simp only [intBin] at h <;> first | exact ⟨_, h.2⟩ | exact ⟨_, h.2.2⟩
  · cases op <;> simp only [strBin] at h <;> first | exact ⟨_, h⟩ | exact ⟨_, h.2⟩ | exact h.elim
  · obtain ⟨_, h⟩ := h
    cases op <;> simp only at h <;> first | exact ⟨_, h⟩ | (obtain ⟨_, _, h⟩ := h; exact ⟨_, h⟩) | exact h.elim
  · obtain ⟨_, h⟩ := h
    cases op <;> simp only at h <;> first | exact ⟨_, h⟩ | (obtain ⟨_, _, _, _, h⟩ := h; exact ⟨_, h⟩) | exact h.elim
  · exact h.elim
theorem ldc_ex {γ ag : Bool} {n : Nat} {cs : List AV} {K : AV → Prop} (h : ldc γ ag n cs K) : ∃ v, K v := by
  unfold ldc at h
  split at h
  · exact ⟨_, h.2⟩
  · exact ⟨_, h.2⟩
theorem bldC_ex {γ : Bool} : ∀ (ps : List (Nat × Nat × AE)) (cs : List AV) {K : AV → Prop}, bldC γ st ps cs K → ∃ v, K v
  | [], cs, _, h => ⟨_, h⟩
  | (o, n, x) :: r, cs, _, h => by
    obtain ⟨_, h⟩ := evg_ex h
    exact bldC_ex r _ h.2
theorem aval_ex {γ : Bool} {o : AO} {K : AV → Prop} (h : aval γ st o K) : ∃ v, K v := by
  cases o <;> simp only [aval] at h <;> first | exact h.elim | skip
  · exact evg_ex h
  · obtain ⟨_, h⟩ := evg_ex h
    split at h
    · unfold pickM at h
      split at h
      · exact ⟨_, h.2.2⟩
      · exact ⟨_, h.2⟩
      · exact ⟨_, h.2⟩
      · exact h.elim
    · exact h.elim
  · obtain ⟨_, h⟩ := evg_ex h
    obtain ⟨_, h⟩ := evg_ex h
    exact abin_ex h
  · obtain ⟨_, h⟩ := evg_ex h
    obtain ⟨_, h⟩ := evg_ex h
    split at h
    · exact ⟨_, h⟩
    · exact h.elim
  · obtain ⟨_, h⟩ := evg_ex h
    obtain ⟨_, h⟩ := evg_ex h
    split at h
    · exact ⟨_, h.2⟩
    · exact h.elim
  · obtain ⟨_, h⟩ := evg_ex h
    unfold avalUn at h
    split at h <;> first | exact ⟨_, h⟩ | exact h.elim
  · obtain ⟨_, h⟩ := evg_ex h
    split at h <;> first | exact ⟨_, h⟩ | exact h.elim
  · obtain ⟨_, h⟩ := evg_ex h
    split at h <;> first | exact ⟨_, h⟩ | exact h.elim
  · obtain ⟨_, h⟩ := evg_ex h
    split at h <;> first | exact ⟨_, h⟩ | exact ⟨_, h.2⟩ | exact h.elim
  · obtain ⟨_, h⟩ := evg_ex h
    split at h <;> first | exact ⟨_, h⟩ | exact h.elim
  · obtain ⟨_, h⟩ := evg_ex h
    unfold avalBts at h
    split at h <;> first | exact ⟨_, h.2⟩ | exact h.elim
  · obtain ⟨_, h⟩ := evg_ex h
    obtain ⟨_, h⟩ := evg_ex h
    split at h <;> first | exact ⟨_, h.2⟩ | exact h.elim
  · obtain ⟨_, h⟩ := evg_ex h
    split at h <;> first | exact ⟨_, h⟩ | exact h.elim
  · obtain ⟨_, h⟩ := evg_ex h
    split at h <;> first | exact ⟨_, h⟩ | exact h.elim
  · obtain ⟨_, h⟩ := evg_ex h
    unfold avalLen at h
    split at h <;> first | exact ⟨_, h⟩ | exact h.elim
  · obtain ⟨_, h⟩ := evg_ex h
    obtain ⟨_, h⟩ := evg_ex h
    unfold avalMM at h
    split at h <;> first | exact ⟨_, h⟩ | exact h.elim
  · obtain ⟨_, h⟩ := evg_ex h
    split at h <;> first | exact ⟨_, h.2⟩ | exact h.elim
  · obtain ⟨_, h⟩ := evg_ex h
    split at h <;> first | exact ⟨_, h⟩ | exact h.elim
  · obtain ⟨_, h⟩ := evg_ex h
    obtain ⟨_, h⟩ := evg_ex h
    unfold avalIdx at h
    split at h
    · exact ⟨_, h.2.2.2⟩
    · obtain ⟨_, _, h⟩ := h
      split at h
      · exact ⟨_, h.2⟩
      · exact h.elim
    · exact h.elim
  · obtain ⟨_, h⟩ := evg_ex h
    obtain ⟨_, h⟩ := evg_ex h
    split at h <;> first | exact ⟨_, h.2⟩ | exact h.elim
  · obtain ⟨_, h⟩ := evg_ex h
    unfold avalLd at h
    split at h
    · exact ldc_ex h
    · split at h
      · exact ldc_ex h
      · exact h.elim
    · split at h
      · exact ldc_ex h
      · exact h.elim
    · exact h.elim
  · obtain ⟨_, h⟩ := evg_ex h
    split at h
    · obtain ⟨_, _, h⟩ := bnd_ex h; exact ⟨_, h⟩
    · exact h.elim
  · obtain ⟨_, h⟩ := evg_ex h
    unfold avalSlc at h
    split at h
    · obtain ⟨_, _, h⟩ := bnd_ex h; exact ⟨_, h⟩
    · obtain ⟨_, h⟩ := h
      obtain ⟨_, _, h⟩ := bnd_ex h; exact ⟨_, h⟩
    · obtain ⟨_, _, h⟩ := bnd_ex h
      split at h <;> first | exact ⟨_, h.2⟩ | exact h.elim
    · exact h.elim
  · exact bldC_ex _ _ h
  · obtain ⟨_, h⟩ := evg_ex h
    unfold avalFldA at h
    split at h
    · exact ⟨_, h.2.2.2⟩
    · split at h <;> first | exact ⟨_, h.2⟩ | exact h.elim
    · exact ⟨_, h⟩
    · exact h.elim
  · obtain ⟨_, h⟩ := evg_ex h
    split at h <;> first | exact ⟨_, h.2.2⟩ | exact h.elim
  · obtain ⟨_, h⟩ := evg_ex h
    obtain ⟨_, h⟩ := evg_ex h
    split at h <;> first | exact ⟨_, h.2⟩ | exact h.elim
  · obtain ⟨_, h⟩ := evg_ex h
    obtain ⟨_, h⟩ := evg_ex h
    split at h <;> first | exact ⟨_, h.2⟩ | exact h.elim
  · obtain ⟨_, h⟩ := evg_ex h
    unfold snilC at h
    split at h
    · exact ⟨_, h⟩
    · have h := h.2
      split at h <;> first | exact ⟨_, h⟩ | exact h.elim
    · exact ⟨_, h.2⟩
    · exact h.elim
  · obtain ⟨_, h⟩ := evg_ex h
    unfold inilC at h
    split at h
    · exact ⟨_, h.2⟩
    · exact h.elim
  · obtain ⟨_, h⟩ := evg_ex h
    split at h
    · exact ⟨_, h⟩
    · exact h.elim
  · obtain ⟨_, h⟩ := evg_ex h
    split at h
    · exact ⟨_, h⟩
    · exact h.elim
  · exact ⟨_, h.2⟩

/- A REGION IN THE TEXT's ORDER -/
theorem trCall_call {c : Call} {f : Nat} {args : List AE} (h : trCall P c = .call f args) :
    ∃ fn, c.callee = .value (.func f) ∧ P.funcs[f]? = some fn ∧ fn.body.isNone = false ∧ (fn.name == "runtime.NumGoroutine") = false ∧ args = c.args.toList.map trE := by
  unfold trCall at h
  split at h <;> first | (cases h; done) | skip
  · split at h <;> cases h
  · (repeat' (first | (cases h; done) | split at h))
  · rename_i g hg
    split at h
    · rename_i fn hfn
      split at h
      · rename_i hc
        simp only [Bool.and_eq_true, bne_iff_ne] at hc
        cases h
        exact ⟨fn, hg, hfn, by cases hb : fn.body <;> simp_all, by simpa using hc.2, rfl⟩
      · cases h
    · cases h
theorem trCall_dyn {c : Call} {x : AE} {args : List AE} (h : trCall P c = .dyn x args) : ∃ y, c.callee = .value y ∧ x = trE y ∧ args = c.args.toList.map trE := by
  unfold trCall at h
  split at h <;> first | (cases h; done) | skip
  · split at h <;> cases h
  · (repeat' (first | (cases h; done) | split at h))
  · (repeat' (first | (cases h; done) | split at h))
  · cases h
    exact ⟨_, by assumption, rfl, rfl⟩
theorem trOp_call' {o : Oper} {v : AO} (h : trOp P o = v) (hv : (∃ f args, v = .call f args) ∨ ∃ x args, v = .dyn x args) : ∃ c, o.op = .call c ∧ trCall P c = v := by
  have h1 : ∀ (op : BinOp) t x y, trEq P t op x y = v → False := by
    intro op t x y h
    unfold trEq at h
    rcases hv with ⟨f, args, rfl⟩ | ⟨x, args, rfl⟩ <;> (split at h <;> cases h)
  have h2 : ∀ s d x, trConv P s d x = v → False := by
    intro s d x h
    unfold trConv at h
    rcases hv with ⟨f, args, rfl⟩ | ⟨x, args, rfl⟩ <;> (repeat' (first | (cases h; done) | split at h))
  unfold trOp at h
  split at h
  all_goals first | (exact ⟨_, by assumption, h⟩) | (exfalso; exact h2 _ _ _ h) | (exfalso; rcases hv with ⟨f, args, rfl⟩ | ⟨x, args, rfl⟩ <;> (repeat' (first | (cases h; done) | exact h1 _ _ _ _ h | split at h)))
theorem trOp_call {o : Oper} {f : Nat} {args : List AE} (h : trOp P o = .call f args) : ∃ c, o.op = .call c ∧ trCall P c = .call f args := trOp_call' h (.inl ⟨_, _, rfl⟩)
theorem trOp_dyn {o : Oper} {x : AE} {args : List AE} (h : trOp P o = .dyn x args) : ∃ c, o.op = .call c ∧ trCall P c = .dyn x args := trOp_call' h (.inr ⟨_, _, rfl⟩)

theorem call_run {o : Oper} {f : Nat} {args : List AE} (h : trOp P o = .call f args) (a : Act) (w : World) : ∃ vs, (execOp a.eval o).run P w = .ok (.enter f vs) w ∧ vs.size = args.length ∧
    ∀ (j : Nat) v x, vs[j]? = some v → args[j]? = some x → ∃ y, v = a.eval y ∧ x = trE y := by
  obtain ⟨c, ho, hc⟩ := trOp_call h
  obtain ⟨fn, h1, h2, h3, h4, h5⟩ := trCall_call hc
  refine ⟨c.args.map a.eval, ?_, by rw [h5]; simp, fun j v x e1 e2 => ?_⟩
  · unfold execOp
    have h5 : ¬ fn.name = "runtime.NumGoroutine" := by simpa using h4
    have h6 : ¬ fn.body = none := by intro e; rw [e] at h3; cases h3
    simp [ho, resolve, h1, Act.eval, Deferred.ofValue, invoke, callFunc, h2, h5, h6]
  · rw [h5, List.getElem?_map, Array.getElem?_toList] at e2
    rw [Array.getElem?_map] at e1
    obtain ⟨y, g1, g2⟩ := Option.map_eq_some_iff.1 e1
    rw [g1] at e2
    exact ⟨y, g2.symm, (Option.some.inj e2).symm⟩
theorem dyn_run {o : Oper} {x : AE} {args : List AE} (h : trOp P o = .dyn x args) (hE : RelAt E ρ st a w) {f : Nat} (hx : ev st x = .lit (.func (.func f) #[] #[])) (hf : callable P f = true) :
    ∃ vs, (execOp a.eval o).run P w = .ok (.enter f vs) w ∧ vs.size = args.length ∧ ∀ (j : Nat) v x, vs[j]? = some v → args[j]? = some x → ∃ y, v = a.eval y ∧ x = trE y := by
  obtain ⟨c, ho, hc⟩ := trOp_dyn h
  obtain ⟨y, h1, rfl, h5⟩ := trCall_dyn hc
  have hy : a.eval y = .func (.func f) #[] #[] := by
    have := evalRV hE y
    rw [hx] at this
    generalize a.eval y = z at this
    cases this; rfl
  unfold callable at hf
  split at hf
  · rename_i fn h2
    simp only [Bool.and_eq_true, bne_iff_ne] at hf
    refine ⟨c.args.map a.eval, ?_, by rw [h5]; simp, fun j v x e1 e2 => ?_⟩
    · unfold execOp
      have h5 : ¬ fn.name = "runtime.NumGoroutine" := by simpa using hf.2
      have h6 : ¬ fn.body = none := by intro e; rw [e] at hf; cases hf.1
      simp [ho, resolve, h1, hy, Deferred.ofValue, invoke, callFunc, h2, h5, h6]
    · rw [h5, List.getElem?_map, Array.getElem?_toList] at e2
      rw [Array.getElem?_map] at e1
      obtain ⟨y, g1, g2⟩ := Option.map_eq_some_iff.1 e1
      rw [g1] at e2
      exact ⟨y, g2.symm, (Option.some.inj e2).symm⟩
  · cases hf
theorem dyn_runC {o : Oper} {x : AE} {args : List AE} (h : trOp P o = .dyn x args) (hE : RelAt E ρ st a w) {f : Nat} {cs : List AV} (hx : ev st x = .clo f cs) (hf : callable P f = true) :
    ∃ vs ws : Array Value, (execOp a.eval o).run P w = .ok (.enter f (vs ++ ws)) w ∧ vs.size = args.length ∧ (∀ (j : Nat) v x, vs[j]? = some v → args[j]? = some x → ∃ y, v = a.eval y ∧ x = trE y) ∧
      ws.size = cs.length ∧ ∀ (j : Nat) v c, ws[j]? = some v → cs[j]? = some c → RV (XX E.X0 ρ st.h) w ρ v c := by
  obtain ⟨c, ho, hc⟩ := trOp_dyn h
  obtain ⟨y, h1, rfl, h5⟩ := trCall_dyn hc
  have hy := evalRV hE y
  rw [hx] at hy
  generalize hz : a.eval y = z at hy
  cases hy with
  | clo _ _ ws _ hlen hrel =>
    unfold callable at hf
    split at hf
    · rename_i fn h2
      simp only [Bool.and_eq_true, bne_iff_ne] at hf
      refine ⟨c.args.map a.eval, ws, ?_, by rw [h5]; simp, fun j v x e1 e2 => ?_, hlen, hrel⟩
      · unfold execOp
        have h5 : ¬ fn.name = "runtime.NumGoroutine" := by simpa using hf.2
        have h6 : ¬ fn.body = none := by intro e; rw [e] at hf; cases hf.1
        simp [ho, resolve, h1, hz, Deferred.ofValue, invoke, callFunc, h2, h5, h6]
      · rw [h5, List.getElem?_map, Array.getElem?_toList] at e2
        rw [Array.getElem?_map] at e1
        obtain ⟨y, g1, g2⟩ := Option.map_eq_some_iff.1 e1
        rw [g1] at e2
        exact ⟨y, g2.symm, (Option.some.inj e2).symm⟩
    · cases hf
/-- what leaves all that stands as it is -/
def quietO (q : Bool) : AO → Bool
  | .call _ _ => q
  | .dyn _ _ => q
  | .bad => false
  | o => !isEff o || isNew o
theorem evalT (y : Operand) {k : Nat} (hk : trE y = .t k) : k < 2000000 ∧ a.eval y = a.tmps.getD k undef := by
  cases y with
  | tmp t =>
    simp only [trE] at hk
    split at hk
    · cases hk; rename_i h; exact ⟨h, rfl⟩
    · cases hk
  | const v => cases hk
  | func f => cases hk
  | global g => cases hk
theorem aop1_sound {o : Oper} {q : Bool} {K : AV → St → Prop} (h : RelAt E ρ st a w) (hd : ∀ k, o.dst = some k → k < E.N) {id : Nat} (hk : aop1 P q st id (trOp P o) K) {next : Act → World → Prop} {Q : Exit → Act → World → Prop}
    (hn : ∀ av st' ρ' a' w', K av st' → RelAt E ρ' (put st' o.dst av) a' w' → (quietO q (trOp P o) = true → Same w w') → next a' w') : o.wp P a w next Q := by
  unfold aop1 at hk
  split at hk
  · rename_i f args ho
    rw [ho] at hn
    obtain ⟨vs, h1, h2, h3⟩ := call_run ho a w
    unfold Oper.wp
    rw [h1, Oper.upon_enter]
    refine (hk E ρ a w vs h h2 (fun j v x e1 e2 => ?_)).mono ?_
    · obtain ⟨y, rfl, rfl⟩ := h3 j v x e1 e2
      exact ⟨evalRV h y, fun k hk => evalT y hk⟩
    · rintro e w' ⟨v, ρ', st', av, rfl, g1, g2, g3, g4⟩
      exact hn av st' ρ' _ w' g3 (relAt_put g1 hd g2) g4
  · rename_i x args ho
    rw [ho] at hn
    unfold adyn at hk
    split at hk
    · rename_i f xs ys hx
      obtain ⟨⟨rfl, rfl⟩, hf, hk⟩ := hk
      obtain ⟨vs, h1, h2, h3⟩ := dyn_run ho h hx hf
      unfold Oper.wp
      rw [h1, Oper.upon_enter]
      refine (hk E ρ a w vs h h2 (fun j v x e1 e2 => ?_)).mono ?_
      · obtain ⟨y, rfl, rfl⟩ := h3 j v x e1 e2
        exact ⟨evalRV h y, fun k hk => evalT y hk⟩
      · rintro e w' ⟨v, ρ', st', av, rfl, g1, g2, g3, g4⟩
        exact hn av st' ρ' _ w' g3 (relAt_put g1 hd g2) g4
    · rename_i f cs hx
      obtain ⟨hf, hk⟩ := hk
      obtain ⟨vs, ws, h1, h2, h3, h4, h5⟩ := dyn_runC ho h hx hf
      unfold Oper.wp
      rw [h1, Oper.upon_enter]
      refine (hk E ρ a w (vs ++ ws) h (by simp [h2, h4]) (fun j v x e1 e2 => ?_)).mono ?_
      · by_cases hj : j < vs.size
        · rw [Array.getElem?_append_left hj] at e1
          rw [List.getElem?_append_left (by omega)] at e2
          obtain ⟨y, rfl, rfl⟩ := h3 j v x e1 e2
          exact ⟨evalRV h y, fun k hk => evalT y hk⟩
        · rw [Array.getElem?_append_right (by omega)] at e1
          rw [List.getElem?_append_right (by omega), List.getElem?_map] at e2
          obtain ⟨c, g1, rfl⟩ := Option.map_eq_some_iff.1 e2
          rw [h2] at e1
          exact ⟨h5 _ v c e1 g1, fun k hk => by cases hk⟩
      · rintro e w' ⟨v, ρ', st', av, rfl, g1, g2, g3, g4⟩
        exact hn av st' ρ' _ w' g3 (relAt_put g1 hd g2) g4
    · exact hk.elim
  · rename_i hnc
    split at hk
    · rename_i hef
      obtain ⟨nx, v, w', ρ', st', av, h1, h2, h3, h4, h5, h6⟩ := eff_sound (P := P) h id hk
      unfold Oper.wp
      rw [h1]
      have hq : quietO q (trOp P o) = true → Same w w' := fun e => h6 (by
        generalize trOp P o = x at e hef
        cases x <;> simp_all [quietO, isNew, isEff])
      rcases h2 with rfl | ⟨rfl, rfl⟩
      · exact hn av st' ρ' _ w' h5 (relAt_put h3 hd h4) hq
      · exact hn av st' ρ' _ w' h5 (relAt_put h3 hd h4) hq
    · obtain ⟨v, av, h1, h2, h3⟩ := aval_sound (P := P) h hk rfl
      unfold Oper.wp
      rw [h1.here]
      exact hn av st ρ _ w h3 (relAt_put h hd h2) (fun _ => Same.refl w)
theorem aopG_sound {o : Oper} {q γ : Bool} {K : AV → Prop} (h : RelAt E ρ st a w) (hd : ∀ k, o.dst = some k → k < E.N) (hk : aopG P q γ st (trOp P o) K) (hγ : γ = true) {next : Act → World → Prop} {Q : Exit → Act → World → Prop}
    (hn : ∀ av ρ' a' w', K av → RelAt E ρ' (put st o.dst (.gd γ av)) a' w' → (quietO q (trOp P o) = true → Same w w') → next a' w') : o.wp P a w next Q := by
  unfold aopG at hk
  split at hk
  · rename_i f args ho
    rw [ho] at hn
    obtain ⟨r, hr, hk⟩ := hk
    obtain ⟨vs, h1, h2, h3⟩ := call_run ho a w
    unfold Oper.wp
    rw [h1, Oper.upon_enter]
    refine (hr hγ E ρ a w vs h h2 (fun j v x e1 e2 => ?_)).mono ?_
    · obtain ⟨y, rfl, rfl⟩ := h3 j v x e1 e2
      exact ⟨evalRV h y, fun k hk => evalT y hk⟩
    · rintro e w' ⟨v, ρ', st', av, rfl, g1, g2, ⟨rfl, rfl⟩, g4⟩
      exact hn av ρ' _ w' hk (relAt_put g1 hd (.gd _ _ _ _ (fun _ => g2) (fun h => by rw [hγ] at h; cases h))) g4
  · obtain ⟨v, av, h1, h2, h3⟩ := aval_sound (P := P) h hk hγ
    unfold Oper.wp
    rw [h1.here]
    exact hn av ρ _ w h3 (relAt_put h hd (.gd _ _ _ _ (fun _ => h2) (fun h => by rw [hγ] at h; cases h))) (fun _ => Same.refl w)
theorem aop1_soundG {o : Oper} {q : Bool} {K : AV → St → Prop} (h : RelAt E ρ st a w) (hd : ∀ k, o.dst = some k → k < E.N) {id : Nat} (hk : aop1 P q st id (trOp P o) K) {next : Act → World → Prop} {Q : Exit → Act → World → Prop}
    (hn : ∀ av st' ρ' a' w', K av st' → RelAt E ρ' (put st' o.dst (.gd true av)) a' w' → (quietO q (trOp P o) = true → Same w w') → next a' w') : o.wp P a w next Q := by
  refine aop1_sound h hd hk (fun av st' ρ' a' w' h1 h2 h3 => hn av st' ρ' a' w' h1 ?_ h3)
  cases ho : o.dst with
  | none => rw [ho] at h2; exact h2
  | some d =>
    rw [ho] at h2
    refine ⟨h2.defers, h2.size, fun k av' hk => ?_, h2.heap, h2.base, h2.frm, h2.x0⟩
    simp only [put, sget] at hk
    split at hk
    · rename_i e
      obtain rfl := Option.some.inj hk
      have := h2.slots k av (by simp [put, sget, e])
      exact ⟨this.1, .gd _ _ _ _ (fun _ => this.2) (fun e => by cases e)⟩
    · rename_i e
      exact h2.slots k av' (by simp only [put, sget, if_neg e]; exact hk)
theorem aopG_ex {o : AO} {q γ : Bool} {K : AV → Prop} (hk : aopG P q γ st o K) : ∃ v, K v := by
  unfold aopG at hk
  split at hk
  · obtain ⟨r, _, hk⟩ := hk; exact ⟨r, hk⟩
  · exact aval_ex hk
theorem grd_sound (h : RelAt E ρ st a w) {ops : Array Oper} {j : Nat} {want γ : Bool} (hg : grd (sget st.s (Nat.min (((ops[j]?).bind (·.dst)).getD 1000000) 1000000)) want = some γ) (hN : E.N ≤ 1000000) :
    (yielded ops a.tmps j == some want) = γ := by
  cases hd : (ops[j]?).bind (·.dst) with
  | none =>
    rw [hd] at hg
    simp only [Option.getD_none, show Nat.min 1000000 1000000 = 1000000 from rfl] at hg
    cases hs : sget st.s 1000000 with
    | none => rw [hs] at hg; cases hg
    | some av => have := (h.slots _ av hs).1; omega
  | some d =>
    rw [hd] at hg
    simp only [Option.getD_some] at hg
    have hmin : sget st.s (Nat.min d 1000000) ≠ none → Nat.min d 1000000 = d ∧ d < E.N := by
      intro hne
      cases hs : sget st.s (Nat.min d 1000000) with
      | none => exact absurd hs hne
      | some av =>
        have h1 := (h.slots _ av hs).1
        have h2 : Nat.min d 1000000 ≤ 1000000 := Nat.min_le_right _ _
        have h3 : Nat.min d 1000000 < E.N := by omega
        have h4 : Nat.min d 1000000 = d := Nat.min_eq_left (by
          rcases Nat.le_total d 1000000 with h5 | h5
          · exact h5
          · have := Nat.min_eq_right h5
            have h6 : Nat.min d 1000000 = 1000000 := this
            omega)
        exact ⟨h4, by rw [h4] at h3; exact h3⟩
    have hmn : Nat.min d 1000000 = d ∧ d < E.N := hmin (by intro e; rw [e] at hg; cases hg)
    rw [hmn.1] at hg
    cases hs : sget st.s d with
    | none => rw [hs] at hg; cases hg
    | some av =>
      rw [hs] at hg
      obtain ⟨hlt, hv⟩ := h.slots d av hs
      have hlt : d < E.N := hmn.2
      unfold sval at hv
      rw [if_pos hlt] at hv
      have ht : a.tmps[d]? = some (a.tmps.getD d undef) := by
        rw [Array.getD_eq_getD_getElem?, Array.getElem?_eq_getElem (by rw [h.size]; exact hlt)]; rfl
      unfold yielded
      rw [hd]
      simp only [Option.bind_some, ht]
      unfold grd at hg
      split at hg
      · rename_i β hb
        cases hb
        rw [RV.bool_of hv]
        obtain rfl := Option.some.inj hg
        cases β <;> cases want <;> rfl
      · rename_i b β hb
        cases hb
        obtain rfl := Option.some.inj hg
        cases b with
        | true =>
          have := RV.gd_inv hv rfl
          rw [RV.bool_of this]
          cases β <;> cases want <;> rfl
        | false =>
          rw [RV.gd_no hv rfl]
          cases β <;> cases want <;> rfl
      · rename_i hb
        cases hb
        obtain rfl := Option.some.inj hg
        rw [RV.gd_no hv rfl]
        cases want <;> rfl
      · cases hg
end
end Go.Proofs.YtgkcbhdpenmogaaDoor.Eng
