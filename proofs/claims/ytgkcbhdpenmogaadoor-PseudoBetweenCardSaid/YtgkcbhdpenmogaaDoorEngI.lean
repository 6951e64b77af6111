/- The engine, part I: code, functions, contracts. -/
import Derived.Test.YtgkcbhdpenmogaaDoorEngH
set_option linter.all false
namespace Go.Proofs.YtgkcbhdpenmogaaDoor.Eng

section
variable {P : Program} {E : Env} {ρ : Loc} {st : St} {a : Act} {w : World}
theorem fits_lt {N : Nat} {o : Oper} (h : fits N o = true) : ∀ k, o.dst = some k → k < N := by
  intro k hk
  unfold fits at h
  rw [hk, Bool.and_eq_true] at h
  simpa using h.2
theorem fits_nd {N : Nat} {o : Oper} (h : fits N o = true) : noDf o.op = true := by
  unfold fits at h
  rw [Bool.and_eq_true] at h
  exact h.1
theorem aops_sound (hN : E.N ≤ 1000000) (ops : Array Oper) {Q : Exit → Act → World → Prop} {K : St → Prop} {r : Option Nat} {n : Nat} (tl : List Oper) (hQ : ∀ st' a' w', K st' → Rel E st' a' w' → wpListIn (rdF r) n P ops Q tl a' w') :
    ∀ (l : List Oper) {ρ : Loc} {st : St} {a : Act} {w : World}, (∀ o ∈ l, fits E.N o = true) → RelAt E ρ st a w → aops P (l.map (trO P E.B ops false)) st K → wpListIn (rdF r) n P ops Q (l ++ tl) a w
  | [], ρ, st, a, w, _, h, hk => hQ st a w hk ⟨ρ, h⟩
  | o :: l, ρ, st, a, w, hf, h, hk => by
    have hd := fits_lt (hf o (List.mem_cons_self ..))
    have hf' : ∀ o ∈ l, fits E.N o = true := fun x hx => hf x (List.mem_cons_of_mem _ hx)
    cases hg : o.guard with
    | none =>
      have hk' : aop1 P false st (E.B + o.dst.getD 0) (trOp P o) fun v st' => aops P (l.map (trO P E.B ops false)) (put st' o.dst v) K := by
        simpa [trO, hg, aops] using hk
      refine wpListIn_plain hg (fun next hnext => wp_in (fits_nd (hf o (List.mem_cons_self ..))) (aop1_sound h hd hk' (fun av st' ρ' a' w' h1 h2 _ => hnext _ _ ?_)))
      exact aops_sound hN ops tl hQ l hf' h2 h1
    | some q =>
      obtain ⟨j, want⟩ := q
      simp only [List.map_cons, trO, hg, Option.map_some, aops] at hk
      split at hk
      · rename_i γ hγ
        have hy := grd_sound h hγ hN
        have hw : Region.wanted o (yielded ops a.tmps) = γ := by simp only [Region.wanted, hg]; exact hy
        refine wpListIn_step (fun next hnext => ?_)
        rw [hw]
        cases γ with
        | true =>
          rw [if_pos rfl]
          rcases hk with hk | hk | hk
          · cases hk.1
          · exact wp_in (fits_nd (hf o (List.mem_cons_self ..))) (aop1_soundG h hd hk.2 (fun av st' ρ' a' w' h1 h2 _ => hnext _ _ (aops_sound hN ops tl hQ l hf' h2 h1)))
          · exact wp_in (fits_nd (hf o (List.mem_cons_self ..))) (aopG_sound h hd hk rfl (fun av ρ' a' w' h1 h2 _ => hnext _ _ (aops_sound hN ops tl hQ l hf' h2 h1)))
        | false =>
          rw [if_neg (by simp)]
          have hk : ∃ v, aops P (l.map (trO P E.B ops false)) (put st o.dst (.gd false v)) K := hk.elim (fun x => ⟨_, x.2⟩) (fun x => x.elim (fun y => by cases y.1) aopG_ex)
          obtain ⟨v, hv⟩ := hk
          exact ⟨fun _ _ => trivial, hnext _ _ (aops_sound hN ops tl hQ l hf' (relAt_put h hd (.gd _ _ _ _ (fun h => by cases h) (fun _ => rfl))) hv)⟩
      · exact hk.elim

/- A REGION WHOSE ORDER IS OPEN -/
def valO : AO → Bool
  | .call _ _ => false
  | .dyn _ _ => false
  | .pnc _ => false
  | .bad => false
  | o => !isEff o
/-- does it come to the same in every world? -/
def pureO (o : Oper) : Bool :=
  match o.op with
  | .move _ | .assign _ => true
  | .binOp .add _ _ _ _ | .binOp .sub _ _ _ _ => true
  | .fieldAddr _ _ _ => true
  | _ => false
def waits (i : Nat) (o : Oper) : Bool := o.after.any fun e => Region.binds .any e && e.on == i
/-- those that wait for it, straight or through others -/
def lateL (ops : Array Oper) (i : Nat) : List Nat :=
  (List.range ops.size).foldl (fun acc j => match ops[j]? with
    | some o => if o.after.any (fun e => Region.binds .any e && (e.on == i || acc.contains e.on)) then j :: acc else acc
    | none => acc) []
theorem lateL_spec (ops : Array Oper) (i : Nat) : ∀ j ∈ lateL ops i, ∃ o, ops[j]? = some o ∧ ∃ e ∈ o.after, Region.binds .any e = true ∧ (e.on = i ∨ e.on ∈ lateL ops i) := by
  have key : ∀ (l acc : List Nat), (∀ j ∈ acc, ∃ o, ops[j]? = some o ∧ ∃ e ∈ o.after, Region.binds .any e = true ∧ (e.on = i ∨ e.on ∈ acc)) →
      ∀ j ∈ l.foldl (fun acc j => match ops[j]? with
        | some o => if o.after.any (fun e => Region.binds .any e && (e.on == i || acc.contains e.on)) then j :: acc else acc
        | none => acc) acc, ∃ o, ops[j]? = some o ∧ ∃ e ∈ o.after, Region.binds .any e = true ∧ (e.on = i ∨ e.on ∈ l.foldl (fun acc j => match ops[j]? with
        | some o => if o.after.any (fun e => Region.binds .any e && (e.on == i || acc.contains e.on)) then j :: acc else acc
        | none => acc) acc) := by
    intro l
    induction l with
    | nil => intro acc h; exact h
    | cons x r ih =>
      intro acc h
      rw [List.foldl_cons]
      refine ih _ ?_
      cases hx : ops[x]? with
      | none => exact h
      | some o =>
        simp only
        split
        · rename_i ha
          intro j hj
          rcases List.mem_cons.1 hj with rfl | hj
          · obtain ⟨e, he, hb⟩ := Array.any_eq_true'.1 ha
            simp only [Bool.and_eq_true, Bool.or_eq_true, beq_iff_eq, List.contains_iff_mem] at hb
            exact ⟨o, hx, e, he, hb.1, hb.2.imp id (fun h => List.mem_cons_of_mem _ h)⟩
          · obtain ⟨o', h1, e, h2, h3, h4⟩ := h j hj
            exact ⟨o', h1, e, h2, h3, h4.imp id (fun h => List.mem_cons_of_mem _ h)⟩
        · exact h
  exact key (List.range ops.size) [] (fun j hj => by cases hj)
/-- functions that may panic, and do so on purpose: by name, per program -/
def dieFns : List Nat :=
  []
def mayDie (o : Oper) : Bool :=
  match o.op with
  | .call c => match c.callee with
    | .value (.func f) => dieFns.contains f
    | _ => false
  | _ => false
def hasDie (ops : Array Oper) : Bool := ops.any fun o => mayDie o || match o.op with
  | .panic _ => true
  | _ => false
/-- must it leave all that stands as it is? if some value is free to come ahead of it or behind it -/
def flagQ (P : Program) (ops : Array Oper) (j : Nat) (oj : Oper) : Bool :=
  !mayDie oj && (List.range ops.size).any fun i => match ops[i]? with
    | some oi => i != j && (valO (trOp P oi) && !(pureO oi)) && !(waits i oj) && !(waits j oi) && !((lateL ops i).contains j) && !((lateL ops j).contains i)
    | none => false
def quietAt (P : Program) (ops : Array Oper) (j : Nat) : Bool :=
  match ops[j]? with
  | some o => quietO (flagQ P ops j o) (trOp P o)
  | none => true
def takeable (P : Program) (ops : Array Oper) (listed : Array Bool) (i : Nat) : Bool :=
  match ops[i]? with
  | none => false
  | some oi => valO (trOp P oi) && (List.range ops.size).all fun j => j == i || listed.getD j true || match ops[j]? with
    | some oj => waits i oj || (oi.apart ops oj && (pureO oi || quietAt P ops j)) || ((lateL ops i).contains j && (lateL ops i).all fun k => !listed.getD k false)
    | none => true
def trI (P : Program) (B : Nat) (ops : Array Oper) (i : Nat) : Option AOp := (ops[i]?).map fun o => trO P B ops (flagQ P ops i o) o
/-- orders, with branches where two may come either way -/
inductive AT (α : Type) where
  | nil
  | cons (a : α) (t : AT α)
  | br (x y : AT α)
def AT.fm {α β : Type} (f : α → Option β) : AT α → AT β
  | .nil => .nil
  | .cons a t => match f a with
    | some b => .cons b (t.fm f)
    | none => t.fm f
  | .br x y => .br (x.fm f) (y.fm f)
def AT.lin {α : Type} : AT α → Option (List α)
  | .nil => some []
  | .cons a t => match t.lin with
    | some l => some (a :: l)
    | none => none
  | .br _ _ => none
def AT.alt {α : Type} : AT α → Option (List α × List α × List α)
  | .nil => none
  | .cons a t => match t.alt with
    | some (p, x, y) => some (a :: p, x, y)
    | none => none
  | .br x y => match x.lin, y.lin with
    | some x, some y => some ([], x, y)
    | _, _ => none
def aopsT (P : Program) : AT AOp → St → (St → Prop) → Prop
  | .nil, st, K => K st
  | .cons o r, st, K => aops P [o] st fun st' => aopsT P r st' K
  | .br x y, st, K => aopsT P x st K ∧ aopsT P y st K
theorem aops_cons (P : Program) (o : AOp) (r : List AOp) (st : St) (K : St → Prop) : aops P (o :: r) st K = aops P [o] st fun st' => aops P r st' K := by
  obtain ⟨d, g, q, id, o⟩ := o
  cases g with
  | none => rfl
  | some g => obtain ⟨j, want⟩ := g; rfl
theorem lin_eq (P : Program) : ∀ (T : AT AOp) (l : List AOp), T.lin = some l → ∀ st K, aopsT P T st K = aops P l st K
  | .nil, l, h, st, K => by cases h; rfl
  | .cons o t, l, h, st, K => by
    simp only [AT.lin] at h
    split at h
    · rename_i l' hl
      cases h
      rw [aops_cons]
      simp only [aopsT]
      congr 1
      funext st'
      exact lin_eq P t l' hl st' K
    · cases h
  | .br _ _, l, h, st, K => by cases h
theorem alt_eq (P : Program) : ∀ (T : AT AOp) (p x y : List AOp), T.alt = some (p, x, y) → ∀ st K, aopsT P T st K = aops P p st fun st' => aops P x st' K ∧ aops P y st' K
  | .nil, p, x, y, h, st, K => by cases h
  | .cons o t, p, x, y, h, st, K => by
    simp only [AT.alt] at h
    split at h
    · rename_i p' x' y' hl
      cases h
      rw [aops_cons]
      simp only [aopsT]
      congr 1
      funext st'
      exact alt_eq P t p' _ _ hl st' K
    · cases h
  | .br a b, p, x, y, h, st, K => by
    simp only [AT.alt] at h
    split at h
    · rename_i x' y' h1 h2
      cases h
      simp only [aopsT, aops, lin_eq P a _ h1, lin_eq P b _ h2]
    · cases h
def linGo (P : Program) (ops : Array Oper) : Nat → Array Bool → Option (AT Nat)
  | 0, listed => match Region.ready .any ops listed with
    | [] => some .nil
    | _ => none
  | f + 1, listed => match Region.ready .any ops listed with
    | [] => some .nil
    | i :: rs => match (i :: rs).find? (takeable P ops listed) with
      | some k => (linGo P ops f (listed.setIfInBounds k true)).map (.cons k ·)
      | none => match rs with
        | [] => (linGo P ops f (listed.setIfInBounds i true)).map (.cons i ·)
        | [j] => match linGo P ops f (listed.setIfInBounds i true), linGo P ops f (listed.setIfInBounds j true) with
          | some x, some y => some (.br (.cons i x) (.cons j y))
          | _, _ => none
        | _ => none
def onlyN (E : Env) (K : St → Prop) : Exit → Act → World → Prop := fun e a w => e = .normal ∧ ∃ st, Rel E st a w ∧ K st
theorem valO_aop1 {q : Bool} {st : St} {id : Nat} {o : AO} {K : AV → St → Prop} (hv : valO o = true) (h : aop1 P q st id o K) : aval true st o fun v => K v st := by
  unfold aop1 at h
  split at h
  · simp [valO] at hv
  · simp [valO] at hv
  · rename_i hc
    split at h
    · rename_i he; cases o <;> simp_all [valO]
    · exact h
theorem valO_aopG {q γ : Bool} {st : St} {o : AO} {K : AV → Prop} (hv : valO o = true) (h : aopG P q γ st o K) : aval γ st o K := by
  unfold aopG at h
  split at h
  · simp [valO] at hv
  · exact h
theorem addsub_steady {X : Nat → Prop} {op : BinOp} (hop : op = .add ∨ op = .sub) {v1 v2 : Value} {x y : AV} {t : TypeId} {K : AV → Prop} (h1 : RV X w ρ v1 x) (h2 : RV X w ρ v2 y) (h : abin true op x y K) :
    ∃ v, ∀ w', (binOp op t v1 v2).run P w' = .ok v w' := by
  rcases hop with rfl | rfl
  · cases h1 <;> cases h2 <;> simp only [abin] at h
    · simp only [intBin] at h
      obtain ⟨rfl, _⟩ := h
      exact ⟨_, fun w' => by simp [binOp, Op.intArith]; rfl⟩
    · obtain ⟨rfl, r, h1, h2⟩ := h; rename_i kk _ _; exact ⟨.float kk r, fun w' => by simp [binOp, Op.floatArith, h1]⟩
    · obtain ⟨rfl, r, i, h1, h2, h3⟩ := h; rename_i kk _ _ _ _; exact ⟨.complex kk r i, fun w' => by simp [binOp, Op.complexOp, Op.Complex.arith, Op.floatArith, h1, h2]⟩
    · rename_i xs ys
      have h1 := h.1 rfl
      have : ¬ ((((⟨xs.toArray⟩ : ByteArray).size + (⟨ys.toArray⟩ : ByteArray).size : Nat) : Int) > IntKind.i64.max) := by simp [ByteArray.size]; omega
      exact ⟨.string (⟨xs.toArray⟩ ++ ⟨ys.toArray⟩), fun w' => by simp only [binOp, Op.stringOp, if_neg this, Sem.run_pure]⟩
  · cases h1 <;> cases h2 <;> simp only [abin] at h
    · simp only [intBin] at h
      obtain ⟨rfl, _⟩ := h
      exact ⟨_, fun w' => by simp [binOp, Op.intArith]; rfl⟩
    · obtain ⟨rfl, r, h1, h2⟩ := h; rename_i kk _ _; exact ⟨.float kk r, fun w' => by simp [binOp, Op.floatArith, h1]⟩
    · obtain ⟨rfl, r, i, h1, h2, h3⟩ := h; rename_i kk _ _ _ _; exact ⟨.complex kk r i, fun w' => by simp [binOp, Op.complexOp, Op.Complex.arith, Op.floatArith, h1, h2]⟩
    · exact h.elim
theorem pure_run (h : RelAt E ρ st a w) {o : Oper} (hp : pureO o = true) {K : AV → Prop} (hk : aval true st (trOp P o) K) {v : Value} (hr : Runs P w (execOp a.eval o) (.value v)) : ∀ w', (execOp a.eval o).run P w' = .ok (.value v) w' := by
  have key : ∃ u, ∀ w', (execOp a.eval o).run P w' = .ok (.value u) w' := by
    have bin : ∀ {op : BinOp} {ty : TypeId} {x y : Operand} {u : TypeId}, o.op = .binOp op ty x y u → (op = .add ∨ op = .sub) → ∃ u, ∀ w', (execOp a.eval o).run P w' = .ok (.value u) w' := by
      intro op ty x y u ho hop
      unfold trOp at hk
      simp only [ho] at hk
      split at hk
      · rcases hop with h | h <;> cases h
      · rcases hop with h | h <;> cases h
      · exact hk.elim
      · rcases hop with h | h <;> cases h
      · rcases hop with h | h <;> cases h
      · rcases hop with h | h <;> cases h
      · rcases hop with h | h <;> cases h
      · rcases hop with rfl | rfl <;> exact hk.elim
      · rcases hop with rfl | rfl <;> exact hk.elim
      · obtain ⟨av, h1, h2⟩ := evg_sound h (x := x) hk rfl
        obtain ⟨av', h1', h2'⟩ := evg_sound h (x := y) h2 rfl
        obtain ⟨v, hv⟩ := addsub_steady (P := P) (t := ty) hop h1 h1' h2'
        refine ⟨v, fun w' => ?_⟩
        rcases hop with rfl | rfl <;> simp [execOp, ho, eqGuard, hv w']
    unfold pureO at hp
    split at hp
    · rename_i x ho
      exact ⟨a.eval x, fun w' => by simp [execOp, ho]⟩
    · rename_i x ho
      exact ⟨a.eval x, fun w' => by simp [execOp, ho]⟩
    · rename_i ho
      exact bin ho (.inl rfl)
    · rename_i ho
      exact bin ho (.inr rfl)
    · rename_i t x f ho
      unfold trOp at hk
      simp only [ho] at hk
      split at hk
      · rename_i fs hu
        split at hk
        · rename_i fl hf
          split at hk
          · rename_i ag n hag hn
            split at hk
            · exact hk.elim
            · rename_i hn0
              have hh := hr w (Same.refl w)
              simp only [execOp, ho, Instr.fieldAt, Sem.run_bind, run_underlying hu, Result.andThen_ok, hf] at hh
              obtain ⟨ad, had⟩ : ∃ ad, a.eval x = .pointer (some ad) := by
                generalize a.eval x = z at hh
                cases z with
                | pointer o =>
                  cases o with
                  | some ad => exact ⟨ad, rfl⟩
                  | none => simp [Instr.sureAddr] at hh
                | _ => simp [Instr.sureAddr] at hh
              refine ⟨.pointer (some (ad.add fl.offset)), fun w' => ?_⟩
              simp [execOp, ho, Instr.fieldAt, run_underlying hu, hf, had, Instr.sureAddr, fieldPlace, run_sizeOf hn, hn0]
          · exact hk.elim
        · exact hk.elim
      · exact hk.elim
    · cases hp
  obtain ⟨u, hu⟩ := key
  have := hr w (Same.refl w)
  rw [hu w] at this
  intro w'
  rw [hu w']
  cases this
  rfl
theorem lin_sound (hN : E.N ≤ 1000000) (ops : Array Oper) (hns : Region.noSelect ops = true) (hf : ∀ o ∈ ops.toList, fits E.N o = true) {K : St → Prop} :
    ∀ (fuel : Nat) (listed : Array Bool) (L : AT Nat) {ρ : Loc} {st : St} {a : Act} {w : World}, linGo P ops fuel listed = some L → RelAt E ρ st a w → aopsT P (L.fm (trI P E.B ops)) st K →
      wpAnyR P .any ops (onlyN E K) (quietAt P ops) fuel listed a w
  | 0, listed, L, ρ, st, a, w, hl, h, hk => by
    simp only [linGo] at hl
    split at hl
    · rename_i hr
      obtain rfl := Option.some.inj hl
      exact ⟨hr, rfl, st, ⟨ρ, h⟩, hk⟩
    · cases hl
  | f + 1, listed, L, ρ, st, a, w, hl, h, hk => by
    simp only [linGo] at hl
    split at hl
    · rename_i hr
      obtain rfl := Option.some.inj hl
      exact ⟨fun _ => ⟨rfl, st, ⟨ρ, h⟩, hk⟩, by rw [hr]; simp⟩
    · rename_i i rs hr
      split at hl
      · rename_i k hfind
        obtain ⟨L', hl', rfl⟩ := Option.map_eq_some_iff.1 hl
        have hmem : k ∈ Region.ready .any ops listed := by rw [hr]; exact List.mem_of_find?_eq_some hfind
        have htk := List.find?_some hfind
        obtain ⟨hun, o, ho, hall⟩ := mem_ready.1 hmem
        have hom : o ∈ ops.toList := by
          have := Array.mem_of_getElem? ho
          simpa using this
        have hd := fits_lt (hf o hom)
        unfold takeable at htk
        rw [ho] at htk
        simp only [Bool.and_eq_true, List.all_eq_true, List.mem_range] at htk
        obtain ⟨hval, htk⟩ := htk
        have hlate : ∀ j oj, ops[j]? = some oj → (j ∈ lateL ops k ∧ ∀ m ∈ lateL ops k, listed.getD m false = false) → ∃ e ∈ oj.after, Region.binds .any e = true ∧ (e.on = k ∨ (e.on ∈ lateL ops k ∧ ∀ m ∈ lateL ops k, listed.getD m false = false)) := by
          rintro j oj hj ⟨hl1, hl2⟩
          obtain ⟨o', h1, e, h2, h3, h4⟩ := lateL_spec ops k j hl1
          rw [hj] at h1
          cases h1
          exact ⟨e, h2, h3, h4.imp id (fun h => ⟨h, hl2⟩)⟩
        have hfree : ∀ j oj, ops[j]? = some oj → j ≠ k → listed.getD j true = false → ¬ (j ∈ lateL ops k ∧ ∀ m ∈ lateL ops k, listed.getD m false = false) → (∀ e ∈ oj.after, Region.binds .any e = true → e.on ≠ k) → o.apart ops oj = true ∧ (pureO o = true ∨ quietAt P ops j = true) := by
          intro j oj hj hne hjl hnl hno
          have := htk j (Array.getElem?_eq_some_iff.1 hj).1
          rw [hj] at this
          simp only [Bool.or_eq_true, beq_iff_eq, hne, false_or, hjl, Bool.false_eq_true, Bool.and_eq_true] at this
          rcases this with (h1 | h1) | h1
          · unfold waits at h1
            obtain ⟨e, he, hb⟩ := Array.any_eq_true'.1 h1
            simp only [Bool.and_eq_true, beq_iff_eq] at hb
            exact absurd hb.2 (hno e he hb.1)
          · exact h1
          · exact absurd ⟨by simpa using h1.1, fun m hm => by simpa using List.all_eq_true.1 h1.2 m hm⟩ hnl
        have go : ∀ v, YieldsIf P ops (Same w) o v a → (pureO o = true → YieldsIf P ops (fun _ => True) o v a) → wpAnyR P .any ops (onlyN E K) (quietAt P ops) f (listed.setIfInBounds k true) (a.put o.dst v) w → wpAnyR P .any ops (onlyN E K) (quietAt P ops) (f + 1) listed a w := by
          intro v hy hyp hw
          cases hp : pureO o with
          | true => exact wpAnyR_first (S := fun _ => True) hlate (fun _ _ _ _ => trivial) ho (Region.noSelect_spec hns) (fun c a w hq => by cases hq.1) f listed a w (fun j hj => hj.2 j hj.1) (fun j oj h1 h2 h3 h4 h5 => ⟨(hfree j oj h1 h2 h3 h4 h5).1, .inl (fun _ => trivial)⟩) hmem (hyp hp) trivial hw
          | false => exact wpAnyR_first (S := Same w) hlate (fun _ _ h1 h2 => h1.trans h2) ho (Region.noSelect_spec hns) (fun c a w hq => by cases hq.1) f listed a w (fun j hj => hj.2 j hj.1) (fun j oj h1 h2 h3 h4 h5 => ⟨(hfree j oj h1 h2 h3 h4 h5).1, .inr ((hfree j oj h1 h2 h3 h4 h5).2.resolve_left (by simp [hp]))⟩) hmem hy (Same.refl w) hw
        have htr : trI P E.B ops k = some (trO P E.B ops (flagQ P ops k o) o) := by simp [trI, ho]
        simp only [AT.fm, htr, aopsT] at hk
        simp only [trO] at hk
        cases hg : o.guard with
        | none =>
          simp only [hg, Option.map_none, aops] at hk
          obtain ⟨v, av, h1, h2, h3⟩ := aval_sound (P := P) h (valO_aop1 hval hk) rfl
          exact go v (.inl ⟨by simp [Region.wanted, hg], fun w' hs => h1 w' hs⟩) (fun hp => .inl ⟨by simp [Region.wanted, hg], fun w' _ => pure_run h hp (valO_aop1 hval hk) h1 w'⟩) (lin_sound hN ops hns hf f _ L' hl' (relAt_put h hd h2) h3)
        | some q =>
          obtain ⟨j, want⟩ := q
          simp only [hg, Option.map_some, aops] at hk
          split at hk
          · rename_i γ hγ
            have hy := grd_sound h hγ hN
            have hw : Region.wanted o (yielded ops a.tmps) = γ := by simp only [Region.wanted, hg]; exact hy
            cases γ with
            | true =>
              have hk : aval true st (trOp P o) fun v => aopsT P (L'.fm (trI P E.B ops)) (put st o.dst (.gd true v)) K := by
                rcases hk with hk | hk | hk
                · cases hk.1
                · exact valO_aop1 hval hk.2
                · exact valO_aopG hval hk
              obtain ⟨v, av, h1, h2, h3⟩ := aval_sound (P := P) h hk rfl
              exact go v (.inl ⟨hw, fun w' hs => h1 w' hs⟩) (fun hp => .inl ⟨hw, fun w' _ => pure_run h hp hk h1 w'⟩) (lin_sound hN ops hns hf f _ L' hl' (relAt_put h hd (.gd _ _ _ _ (fun _ => h2) (fun h => by cases h))) h3)
            | false =>
              have hk : ∃ v, aopsT P (L'.fm (trI P E.B ops)) (put st o.dst (.gd false v)) K := hk.elim (fun x => ⟨_, x.2⟩) (fun x => x.elim (fun y => by cases y.1) aopG_ex)
              obtain ⟨v, hv⟩ := hk
              exact go undef (.inr ⟨hw, rfl⟩) (fun _ => .inr ⟨hw, rfl⟩) (lin_sound hN ops hns hf f _ L' hl' (relAt_put h hd (.gd _ _ _ _ (fun h => by cases h) (fun _ => rfl))) hv)
          · exact hk.elim
      · have one : ∀ (k : Nat) (L' : AT Nat), k ∈ Region.ready .any ops listed → linGo P ops f (listed.setIfInBounds k true) = some L' → aopsT P (AT.fm (trI P E.B ops) (.cons k L')) st K →
            wpOp P ops (onlyN E K) k (fun a' w' => (quietAt P ops k = true → Same w w') ∧ wpAnyR P .any ops (onlyN E K) (quietAt P ops) f (listed.setIfInBounds k true) a' w') a w := by
          intro k L' hmem hl' hk
          obtain ⟨hun, o, ho, hall⟩ := mem_ready.1 hmem
          have hom : o ∈ ops.toList := by
            have := Array.mem_of_getElem? ho
            simpa using this
          have hd := fits_lt (hf o hom)
          have hqa : quietAt P ops k = quietO (flagQ P ops k o) (trOp P o) := by simp [quietAt, ho]
          have htr : trI P E.B ops k = some (trO P E.B ops (flagQ P ops k o) o) := by simp [trI, ho]
          simp only [AT.fm, htr, aopsT] at hk
          simp only [trO] at hk
          unfold wpOp
          simp only [ho, hqa]
          cases hg : o.guard with
          | none =>
            simp only [hg, Option.map_none, aops] at hk
            rw [if_pos (by simp [Region.wanted, hg])]
            exact .inl (aop1_sound h hd hk (fun av st' ρ' a' w' h1 h2 h3 => ⟨h3, lin_sound hN ops hns hf f _ L' hl' h2 h1⟩))
          | some q =>
            obtain ⟨j, want⟩ := q
            simp only [hg, Option.map_some, aops] at hk
            split at hk
            · rename_i γ hγ
              have hy := grd_sound h hγ hN
              have hw : Region.wanted o (yielded ops a.tmps) = γ := by simp only [Region.wanted, hg]; exact hy
              rw [hw]
              cases γ with
              | true =>
                rw [if_pos rfl]
                rcases hk with hk | hk | hk
                · cases hk.1
                · exact .inl (aop1_soundG h hd hk.2 (fun av st' ρ' a' w' h1 h2 h3 => ⟨h3, lin_sound hN ops hns hf f _ L' hl' h2 h1⟩))
                · exact .inl (aopG_sound h hd hk rfl (fun av ρ' a' w' h1 h2 h3 => ⟨h3, lin_sound hN ops hns hf f _ L' hl' h2 h1⟩))
              | false =>
                rw [if_neg (by simp)]
                have hk : ∃ v, aopsT P (L'.fm (trI P E.B ops)) (put st o.dst (.gd false v)) K := hk.elim (fun x => ⟨_, x.2⟩) (fun x => x.elim (fun y => by cases y.1) aopG_ex)
                obtain ⟨v, hv⟩ := hk
                exact ⟨fun _ => Same.refl w, lin_sound hN ops hns hf f _ L' hl' (relAt_put h hd (.gd _ _ _ _ (fun h => by cases h) (fun _ => rfl))) hv⟩
            · exact hk.elim
        split at hl
        · obtain ⟨L', hl', rfl⟩ := Option.map_eq_some_iff.1 hl
          refine ⟨fun e => (by rw [hr] at e; cases e), fun k hmem => ?_⟩
          have hmem' := hmem
          rw [hr] at hmem'
          obtain rfl : k = i := by simpa using hmem'
          exact one k L' hmem hl' hk
        · rename_i j _
          split at hl
          · rename_i x y hx hy
            obtain rfl := Option.some.inj hl
            refine ⟨fun e => (by rw [hr] at e; cases e), fun k hmem => ?_⟩
            have hmem' := hmem
            rw [hr] at hmem'
            rcases List.mem_cons.1 hmem' with rfl | hmem'
            · exact one k x hmem hx hk.1
            · obtain rfl : k = j := by simpa using hmem'
              exact one k y hmem hy hk.2
          · cases hl
        · cases hl
end

theorem wpOpIn_of {P : Program} {ops : Array Oper} {Q : Exit → Act → World → Prop} (hnd : ∀ o ∈ ops.toList, noDf o.op = true) (hlo : ¬ LetsOut Q) {r : Option Nat} {n i : Nat} {K K' : Act → World → Prop} (hK : ∀ a w, K a w → K' a w) {a : Act} {w : World}
    (h : wpOp P ops Q i K a w) : wpOpIn (rdF r) n P ops Q i K' a w := by
  unfold wpOp at h
  unfold wpOpIn
  cases ho : ops[i]? with
  | none => rw [ho] at h; exact hK _ _ h
  | some o =>
    rw [ho] at h
    have hom : o ∈ ops.toList := by
      have := Array.mem_of_getElem? ho
      simpa using this
    simp only at h ⊢
    split
    · rename_i hw
      rw [if_pos hw] at h
      rcases h with h | h
      · exact wp_in (hnd o hom) (Oper.wp_mono hK h)
      · exact absurd h.2 hlo
    · rename_i hw
      rw [if_neg hw] at h
      exact ⟨fun _ _ => trivial, hK _ _ h⟩
theorem wpAnyIn_of_R {P : Program} {ops : Array Oper} {Q : Exit → Act → World → Prop} {md : Region.Mode} {quiet : Nat → Bool} {r : Option Nat} {n : Nat} (hnd : ∀ o ∈ ops.toList, noDf o.op = true) (hlo : ¬ LetsOut Q) :
    ∀ (fuel : Nat) (listed : Array Bool) (a : Act) (w : World), wpAnyR P md ops Q quiet fuel listed a w → wpAnyIn (rdF r) n P md ops Q fuel listed a w
  | 0, _, _, _, h => h
  | fuel + 1, _, _, _, h => ⟨h.1, fun i hi => wpOpIn_of hnd hlo (fun a' w' h' => wpAnyIn_of_R hnd hlo fuel _ a' w' h'.2) (h.2 i hi)⟩
/- CODE -/
inductive AC where
  | skip
  | reg (ops : List AOp)
  | seq (x y : AC)
  | cond (c : AE) (x y : AC)
  | block (id : Nat) (x : AC)
  | loop (x : AC)
  | exit (id : Nat)
  | ret
  | scope (x : AC)
  | label (l : Nat)
  | goto (l : Nat)
  | regS (ops : List AOp)
  | alt (p x y : List AOp)
  | regD (ops : List AOp)
  | altD (p x y : List AOp) (T : AT AOp)
  | dfr (f : Nat) (args : List AE)
  | rng (g : AE) (ps : List Nat) (asg body : AC)
  | bad
def regOps (P : Program) (N B : Nat) (ops : Array Oper) (draw : Bool) : Option (List AOp) :=
  if ops.toList.all (fits N) then
    if draw then
      if P.follows .mixedOrders && Region.noSelect ops then (linGo P ops ops.size (Array.replicate ops.size false)).bind fun L => (L.fm (trI P B ops)).lin
      else none
    else some (ops.toList.map (trO P B ops false))
  else none
/-- a region whose order is open in one place between two that both turn what stands -/
def regAlt (P : Program) (N B : Nat) (ops : Array Oper) (draw : Bool) : Option (List AOp × List AOp × List AOp) :=
  if ops.toList.all (fits N) then
    if draw then
      if P.follows .mixedOrders && Region.noSelect ops then (linGo P ops ops.size (Array.replicate ops.size false)).bind fun L => (L.fm (trI P B ops)).alt
      else none
    else none
  else none
/-- does it end in a call of strings.SplitSeq? -/
def lastSplit (P : Program) (ops : Array Oper) : Bool :=
  match ops.back? with
  | some o => match o.op with
    | .call c => match c.callee with
      | .value (.func f) => ((P.funcs[f]?).map (·.name)) == some "strings.SplitSeq"
      | _ => false
    | _ => false
  | none => false
def brL {α : Type} : List (Option (AT α)) → Option (AT α)
  | [] => none
  | [x] => x
  | x :: y :: r => match x, brL (y :: r) with
    | some x, some y => some (.br x y)
    | _, _ => none
/-- every order, up to the first call that may panic -/
def dieT (P : Program) (ops : Array Oper) : Nat → Array Bool → Option (AT Nat)
  | 0, _ => none
  | f + 1, listed => brL ((Region.ready .any ops listed).map fun i => match ops[i]? with
    | some o => if mayDie o then some (.cons i .nil) else if valO (trOp P o) then (dieT P ops f (listed.setIfInBounds i true)).map (.cons i ·) else none
    | none => none)
/-- a deferred call of a function of the program's own -/
def dfrOf (P : Program) (ops : Array Oper) (draw : Bool) : Option (Nat × List AE) :=
  match draw, ops.toList with
  | false, [o] => match o.op, o.guard, o.dst with
    | .defer c, none, none => match c.callee with
      | .value (.func f) => if callable P f then some (f, c.args.toList.map trE) else none
      | _ => none
    | _, _, _ => none
  | _, _ => none
def trReg (P : Program) (N B : Nat) (ops : Array Oper) (draw : Bool) : AC :=
  match regOps P N B ops draw with
  | some l => if !draw && lastSplit P ops then .regS l else if !draw && hasDie ops then .regD l else .reg l
  | none => match regAlt P N B ops draw with
    | some (p, x, y) => match hasDie ops, draw, dieT P ops ops.size (Array.replicate ops.size false) with
      | true, true, some T => .altD p x y (T.fm (trI P B ops))
      | _, _, _ => .alt p x y
    | none => match dfrOf P ops draw with
      | some (f, args) => .dfr f args
      | none => .bad
def isReg : AC → Bool
  | .reg _ | .regS _ | .regD _ | .alt _ _ _ | .altD _ _ _ _ | .dfr _ _ | .bad => true
  | _ => false
theorem trReg_isReg {P : Program} {N B : Nat} {ops : Array Oper} {draw : Bool} {c : AC} (h : trReg P N B ops draw = c) : isReg c = true := by
  subst h
  unfold trReg
  split
  · split
    · rfl
    · split <;> rfl
  · split
    · split <;> rfl
    · split <;> rfl
theorem trReg_reg {P : Program} {N B : Nat} {ops : Array Oper} {draw : Bool} {l : List AOp} (h : trReg P N B ops draw = .reg l) : regOps P N B ops draw = some l := by
  unfold trReg at h
  split at h
  · rename_i l' hl
    split at h
    · cases h
    · split at h
      · cases h
      · cases h; exact hl
  · split at h
    · split at h <;> cases h
    · split at h <;> cases h
theorem trReg_regS {P : Program} {N B : Nat} {ops : Array Oper} {draw : Bool} {l : List AOp} (h : trReg P N B ops draw = .regS l) : regOps P N B ops draw = some l ∧ draw = false := by
  unfold trReg at h
  split at h
  · rename_i l' hl
    split at h
    · rename_i hd
      simp only [Bool.and_eq_true, Bool.not_eq_true'] at hd
      cases h; exact ⟨hl, hd.1⟩
    · split at h <;> cases h
  · split at h
    · split at h <;> cases h
    · split at h <;> cases h
theorem trReg_regD {P : Program} {N B : Nat} {ops : Array Oper} {draw : Bool} {l : List AOp} (h : trReg P N B ops draw = .regD l) : regOps P N B ops draw = some l ∧ draw = false := by
  unfold trReg at h
  split at h
  · rename_i l' hl
    split at h
    · cases h
    · split at h
      · rename_i hd
        simp only [Bool.and_eq_true, Bool.not_eq_true'] at hd
        cases h; exact ⟨hl, hd.1⟩
      · cases h
  · split at h
    · split at h <;> cases h
    · split at h <;> cases h
theorem trReg_alt {P : Program} {N B : Nat} {ops : Array Oper} {draw : Bool} {p x y : List AOp} (h : trReg P N B ops draw = .alt p x y) : regAlt P N B ops draw = some (p, x, y) := by
  unfold trReg at h
  split at h
  · split at h
    · cases h
    · split at h <;> cases h
  · split at h
    · rename_i hl
      split at h <;> cases h
      exact hl
    · split at h <;> cases h
theorem trReg_altD {P : Program} {N B : Nat} {ops : Array Oper} {draw : Bool} {p x y : List AOp} {T : AT AOp} (h : trReg P N B ops draw = .altD p x y T) :
    regAlt P N B ops draw = some (p, x, y) ∧ draw = true ∧ ∃ T', dieT P ops ops.size (Array.replicate ops.size false) = some T' ∧ T = T'.fm (trI P B ops) := by
  unfold trReg at h
  split at h
  · split at h
    · cases h
    · split at h <;> cases h
  · split at h
    · rename_i hl
      split at h
      · cases h
        exact ⟨hl, rfl, _, by assumption, rfl⟩
      · cases h
    · split at h <;> cases h
theorem trReg_dfr {P : Program} {N B : Nat} {ops : Array Oper} {draw : Bool} {f : Nat} {args : List AE} (h : trReg P N B ops draw = .dfr f args) : dfrOf P ops draw = some (f, args) := by
  unfold trReg at h
  split at h
  · split at h
    · cases h
    · split at h <;> cases h
  · split at h
    · split at h <;> cases h
    · split at h
      · rename_i hl; cases h; exact hl
      · cases h
def trCode (P : Program) (N B : Nat) : Code → AC
  | .skip => .skip
  | .region _ ops draw => trReg P N B ops draw
  | .seq a b => .seq (trCode P N B a) (trCode P N B b)
  | .cond c x y => .cond (trE c) (trCode P N B x) (trCode P N B y)
  | .block id x => .block id (trCode P N B x)
  | .loop x => .loop (trCode P N B x)
  | .exit id => .exit id
  | .ret => .ret
  | .scope x => .scope (trCode P N B x)
  | .label l => .label l
  | .goto l => .goto l
  | .rangeFunc g ps asg body => if ps.toList.all (fun t => decide (t < N)) then .rng (trE g) ps.toList (trCode P N B asg) (trCode P N B body) else .bad
  | _ => .bad
def lift (E : Env) (Q : Exit → St → Prop) : Exit → Act → World → Prop := fun e a w => ∃ st, Rel E st a w ∧ Q e st
/-- the code does, from every world in which the state lies, what Q says -/
def AWp (P : Program) (E : Env) (c : AC) (st : St) (Q : Exit → St → Prop) : Prop :=
  ∀ (n : Nat) code, trCode P E.N E.B code = c → ∀ a w, Rel E st a w → code.wpIn (rdF E.rd) n P (lift E Q) a w

section
variable {P : Program} {E : Env} {st : St} {Q : Exit → St → Prop}
theorem AWp.mono {c : AC} {Q' : Exit → St → Prop} (h : AWp P E c st Q) (hq : ∀ e st, Q e st → Q' e st) : AWp P E c st Q' :=
  fun n code hc a w hr => wpIn_mono (h n code hc a w hr) (fun e a w ⟨st', h1, h2⟩ => ⟨st', h1, hq e st' h2⟩)
theorem awp_skip (h : Q .normal st) : AWp P E .skip st Q := by
  intro n code hc a w hr
  cases code <;> simp only [trCode] at hc <;> first | (cases hc; done) | (exact Bool.noConfusion (show false = true from trReg_isReg hc)) | (split at hc <;> cases hc; done) | skip
  exact wpIn_skip ⟨st, hr, h⟩
theorem region_wp (hN : E.N ≤ 1000000) {ops : List AOp} {code : Code} (hc : trCode P E.N E.B code = .reg ops) {K : St → Prop} (hk : aops P ops st K) {a : Act} {w : World} (hr : Rel E st a w)
    {Q : Exit → Act → World → Prop} (hQ : ∀ st' a' w', K st' → Rel E st' a' w' → Q .normal a' w') {n : Nat} : code.wpIn (rdF E.rd) n P Q a w := by
  cases code <;> simp only [trCode] at hc <;> first | (cases hc; done) | skip
  · rename_i id ops' draw
    obtain ⟨ρ, hρ⟩ := hr
    have hl := trReg_reg hc
    · unfold regOps at hl
      split at hl
      · rename_i hf
        have hf' : ∀ o ∈ ops'.toList, fits E.N o = true := fun o ho => List.all_eq_true.1 hf o ho
        split at hl
        · rename_i hd
          subst hd
          split at hl
          · rename_i hm
            simp only [Bool.and_eq_true] at hm
            obtain ⟨L, hL, hlin⟩ := Option.bind_eq_some_iff.1 hl
            rw [← lin_eq P _ _ hlin] at hk
            refine wpIn_mono (wpIn_region_any hm.1 (wpAnyIn_of_R (fun o ho => fits_nd (hf' o ho)) (fun h => by obtain ⟨a, w, h⟩ := h; cases h.1) _ _ _ _ (lin_sound hN ops' hm.2 hf' _ _ L hL (hρ.same (w' := { w with drawn := w.drawn + 1 }) (Same.drew w)) hk))) ?_
            rintro e a' w' ⟨rfl, st', h1, h2⟩
            exact hQ st' a' w' h2 h1
          · cases hl
        · rename_i hd
          simp only [Bool.not_eq_true] at hd
          subst hd
          obtain rfl := Option.some.inj hl
          have : wpListIn (rdF E.rd) n P ops' Q (ops'.toList ++ []) a w := aops_sound hN ops' [] hQ ops'.toList hf' hρ hk
          rw [List.append_nil] at this
          exact wpIn_region_list this
      · cases hl
  · split at hc <;> cases hc
theorem alt_wp (hN : E.N ≤ 1000000) {p x y : List AOp} {code : Code} (hc : trCode P E.N E.B code = .alt p x y) {K : St → Prop} (hk : aops P p st fun st' => aops P x st' K ∧ aops P y st' K) {a : Act} {w : World} (hr : Rel E st a w)
    {Q : Exit → Act → World → Prop} (hQ : ∀ st' a' w', K st' → Rel E st' a' w' → Q .normal a' w') {n : Nat} : code.wpIn (rdF E.rd) n P Q a w := by
  cases code <;> simp only [trCode] at hc <;> first | (cases hc; done) | skip
  · rename_i id ops' draw
    obtain ⟨ρ, hρ⟩ := hr
    have hl := trReg_alt hc
    · · unfold regAlt at hl
        split at hl
        · rename_i hf
          have hf' : ∀ o ∈ ops'.toList, fits E.N o = true := fun o ho => List.all_eq_true.1 hf o ho
          split at hl
          · rename_i hd
            subst hd
            split at hl
            · rename_i hm
              simp only [Bool.and_eq_true] at hm
              obtain ⟨L, hL, halt⟩ := Option.bind_eq_some_iff.1 hl
              rw [← alt_eq P _ _ _ _ halt] at hk
              refine wpIn_mono (wpIn_region_any hm.1 (wpAnyIn_of_R (fun o ho => fits_nd (hf' o ho)) (fun h => by obtain ⟨a, w, h⟩ := h; cases h.1) _ _ _ _ (lin_sound hN ops' hm.2 hf' _ _ L hL (hρ.same (w' := { w with drawn := w.drawn + 1 }) (Same.drew w)) hk))) ?_
              rintro e a' w' ⟨rfl, st', h1, h2⟩
              exact hQ st' a' w' h2 h1
            · cases hl
          · cases hl
        · cases hl
  · split at hc <;> cases hc
theorem awp_reg (hN : E.N ≤ 1000000) {ops : List AOp} (h : aops P ops st (Q .normal)) : AWp P E (.reg ops) st Q :=
  fun n code hc a w hr => region_wp hN hc h hr (fun st' a' w' h1 h2 => ⟨st', h2, h1⟩)
def thenQ (K : St → Prop) (Q : Exit → St → Prop) : Exit → St → Prop
  | .normal, st => K st
  | e, st => Q e st
theorem awp_seq {x y : AC} (h : AWp P E x st (thenQ (fun st' => AWp P E y st' Q) Q)) : AWp P E (.seq x y) st Q := by
  intro n code hc a w hr
  cases code <;> simp only [trCode] at hc <;> first | (cases hc; done) | (exact Bool.noConfusion (show false = true from trReg_isReg hc)) | (split at hc <;> cases hc; done) | skip
  rename_i c1 c2
  injection hc with hc1 hc2
  refine wpIn_seq (wpIn_mono (h n c1 hc1 a w hr) ?_)
  rintro e a' w' ⟨st', h1, h2⟩
  cases e with
  | normal => exact h2 n c2 hc2 a' w' h1
  | exit id => exact ⟨st', h1, h2⟩
  | goto l => exact ⟨st', h1, h2⟩
  | ret => exact ⟨st', h1, h2⟩
  | panic ch => exact ⟨st', h1, h2⟩
  | outgrown => exact ⟨st', h1, h2⟩
theorem awp_cond {c : AE} {x y : AC} {b : Bool} (hc : ev st c = .bool b) (ht : b = true → AWp P E x st Q) (hf : b = false → AWp P E y st Q) : AWp P E (.cond c x y) st Q := by
  intro n code hcc a w hr
  cases code <;> simp only [trCode] at hcc <;> first | (cases hcc; done) | (exact Bool.noConfusion (show false = true from trReg_isReg hcc)) | (split at hcc <;> cases hcc; done) | skip
  rename_i co c1 c2
  injection hcc with h0 h1 h2
  have hev : a.eval co = .bool b := by
    obtain ⟨ρ, hρ⟩ := hr
    have := evalRV hρ co
    rw [h0, hc] at this
    exact RV.bool_of this
  exact wpIn_cond_split hev (fun hb => ht hb n c1 h1 a w hr) (fun hb => hf hb n c2 h2 a w hr)
def blockQ (id : Nat) (Q : Exit → St → Prop) : Exit → St → Prop
  | .exit id', st => if id' = id then Q .normal st else Q (.exit id') st
  | e, st => Q e st
theorem awp_block {id : Nat} {x : AC} (h : AWp P E x st (blockQ id Q)) : AWp P E (.block id x) st Q := by
  intro n code hc a w hr
  cases code <;> simp only [trCode] at hc <;> first | (cases hc; done) | (exact Bool.noConfusion (show false = true from trReg_isReg hc)) | (split at hc <;> cases hc; done) | skip
  rename_i id' c1
  injection hc with h0 h1
  subst h0
  refine wpIn_block (wpIn_mono (h n c1 h1 a w hr) ?_)
  rintro e a' w' ⟨st', g1, g2⟩
  cases e with
  | exit i =>
    simp only [blockQ] at g2
    simp only [Exit.inBlock]
    split at g2
    · rename_i hi; rw [if_pos hi]; exact ⟨st', g1, g2⟩
    · rename_i hi; rw [if_neg hi]; exact ⟨st', g1, g2⟩
  | normal => exact ⟨st', g1, g2⟩
  | goto l => exact ⟨st', g1, g2⟩
  | ret => exact ⟨st', g1, g2⟩
  | panic ch => exact ⟨st', g1, g2⟩
  | outgrown => exact ⟨st', g1, g2⟩
theorem awp_exit {id : Nat} (h : Q (.exit id) st) : AWp P E (.exit id) st Q := by
  intro n code hc a w hr
  cases code <;> simp only [trCode] at hc <;> first | (cases hc; done) | (exact Bool.noConfusion (show false = true from trReg_isReg hc)) | (split at hc <;> cases hc; done) | skip
  injection hc with h0
  subst h0
  exact wpIn_exit ⟨st, hr, h⟩
theorem awp_ret (h : Q .ret st) : AWp P E .ret st Q := by
  intro n code hc a w hr
  cases code <;> simp only [trCode] at hc <;> first | (cases hc; done) | (exact Bool.noConfusion (show false = true from trReg_isReg hc)) | (split at hc <;> cases hc; done) | skip
  exact wpIn_ret ⟨st, hr, h⟩
/- SCOPES -/
def findA : AC → Nat → Option AC
  | .seq a b, l => match findA a l with
    | some r => some (.seq r b)
    | none => findA b l
  | .label l', l => if l' == l then some .skip else none
  | _, _ => none
theorem findA_tr (P : Program) (N B : Nat) : ∀ (c : Code) (l : Nat), findA (trCode P N B c) l = (findLabel c l).map (trCode P N B)
  | .seq a b, l => by
    simp only [trCode, findA, findLabel, findA_tr P N B a l]
    cases findLabel a l with
    | some r => rfl
    | none => exact findA_tr P N B b l
  | .label l', l => by
    simp only [trCode, findA, findLabel]
    split <;> rfl
  | .skip, l => rfl
  | .region id ops draw, l => by
    simp only [trCode, findLabel]
    have h := trReg_isReg (rfl : trReg P N B ops draw = _)
    revert h
    generalize trReg P N B ops draw = c
    intro h
    cases c <;> first | rfl | cases h
  | .cond c x y, l => rfl
  | .block id x, l => rfl
  | .loop x, l => rfl
  | .rangeFunc _ _ _ _, l => by
    simp only [trCode, findLabel]
    split <;> rfl
  | .exit id, l => rfl
  | .scope x, l => rfl
  | .goto _, l => rfl
  | .ret, l => rfl
  | .refuse _, l => rfl
theorem stepR_scope {P : Program} {b : Frame} {a : Act} {k : List Item} {cs : List Frame} {w : World} {c : Code} :
    step P (lone (b.atR a (.code (.scope c) :: k)) cs w) = .next (lone (b.atR a (.code c :: .inScope c :: k)) cs w) :=
  step_lone_go (by simp [stepG, stepG.exec, Frame.atR])
theorem stepR_inScope {P : Program} {b : Frame} {a : Act} {k : List Item} {cs : List Frame} {w : World} {c : Code} :
    step P (lone (b.atR a (.inScope c :: k)) cs w) = .next (lone (b.atR a k) cs w) :=
  step_lone_go (by simp [stepG, stepG.exec, Frame.atR])
/-- a scope of one label to which the run jumps forward alone -/
theorem wpIn_scope {F : Fence} {n : Nat} {P : Program} {a : Act} {w : World} {Q : Exit → Act → World → Prop} {c rest : Code} (l : Nat) (J : Act → World → Prop) (hf : findLabel c l = some rest)
    (first : c.wpIn F n P (Exit.jump l J Q) a w) (pass : ∀ a w, J a w → rest.wpIn F n P (Exit.noGoto Q) a w) : (Code.scope c).wpIn F n P Q a w := by
  intro b k cs hro hb hr
  have hg : gotoIn l (.inScope c :: k) = some (.code rest :: .inScope c :: k) := by simp [gotoIn, hf]
  have h0 : (lone (b.atR a (.code (.scope c) :: k)) cs w).fenced P F := fenced_calm hb hr rfl
  have fin : ∀ {m : Machine} {Q' : Exit → Act → World → Prop}, (∀ e a w, Q' e a w → (∃ l', e = .goto l') ∨ Q e a w) → ∀ e a₁ w₁, Q' e a₁ w₁ → (∀ l', e ≠ .goto l') → ArrivesIn (Machine.fenced P F) P m b (.inScope c :: k) cs e a₁ w₁ →
      ∃ e a' w', Q e a' w' ∧ ArrivesIn (Machine.fenced P F) P m b k cs e a' w' := by
    intro m Q' hQ e a₁ w₁ hq hne harr
    have hq' := (hQ e a₁ w₁ hq).resolve_left (fun ⟨l', h⟩ => hne l' h)
    cases e with
    | normal => exact ⟨.normal, a₁, w₁, hq', StepsIn.trans harr (.one (fenced_calm hb hr rfl) stepR_inScope)⟩
    | exit id =>
      have hx : exitTo id (.inScope c :: k) = exitTo id k := by simp [exitTo]
      exact ⟨.exit id, a₁, w₁, hq', fun k' hk => harr.1 k' (by rw [hx]; exact hk), fun h1 h2 => harr.2 h1 (by rw [hx]; exact h2)⟩
    | goto l' => exact absurd rfl (hne l')
    | ret => exact ⟨_, a₁, w₁, hq', harr⟩
    | panic ch => exact ⟨_, a₁, w₁, hq', harr⟩
    | outgrown => exact ⟨_, a₁, w₁, hq', harr⟩
  obtain ⟨e, a₁, w₁, hq, harr⟩ := first b (.inScope c :: k) cs hro hb hr
  by_cases hgo : ∃ l', e = .goto l'
  · obtain ⟨l', rfl⟩ := hgo
    obtain ⟨rfl, hJ⟩ := hq
    obtain ⟨e₂, a₂, w₂, hq₂, harr₂⟩ := pass a₁ w₁ hJ b (.inScope c :: k) cs hro hb hr
    have hne : ∀ l', e₂ ≠ .goto l' := fun l' h => by subst h; exact hq₂
    obtain ⟨e₃, a₃, w₃, hq₃, harr₃⟩ := fin (Q' := Exit.noGoto Q) (fun e a w h => by cases e <;> first | exact .inr h | exact .inl ⟨_, rfl⟩) e₂ a₂ w₂ hq₂ hne harr₂
    exact ⟨e₃, a₃, w₃, hq₃, .of_steps (.head h0 stepR_scope (harr.1 _ hg)) harr₃⟩
  · obtain ⟨e₃, a₃, w₃, hq₃, harr₃⟩ := fin (Q' := Exit.jump l J Q) (fun e a w h => by cases e <;> first | exact .inr h | exact .inl ⟨_, rfl⟩) e a₁ w₁ hq (fun l' h => hgo ⟨l', h⟩) harr
    exact ⟨e₃, a₃, w₃, hq₃, .of_steps (.one h0 stepR_scope) harr₃⟩
def jumpQ (l : Nat) (J : St → Prop) (Q : Exit → St → Prop) : Exit → St → Prop
  | .goto l', st => l' = l ∧ J st
  | e, st => Q e st
def nogQ (Q : Exit → St → Prop) : Exit → St → Prop
  | .goto _, _ => False
  | e, st => Q e st
theorem awp_label {l : Nat} (h : Q .normal st) : AWp P E (.label l) st Q := by
  intro n code hc a w hr
  cases code <;> simp only [trCode] at hc <;> first | (cases hc; done) | (exact Bool.noConfusion (show false = true from trReg_isReg hc)) | (split at hc <;> cases hc; done) | skip
  exact wpIn_label ⟨st, hr, h⟩
theorem awp_goto {l : Nat} (h : Q (.goto l) st) : AWp P E (.goto l) st Q := by
  intro n code hc a w hr
  cases code <;> simp only [trCode] at hc <;> first | (cases hc; done) | (exact Bool.noConfusion (show false = true from trReg_isReg hc)) | (split at hc <;> cases hc; done) | skip
  injection hc with h0
  subst h0
  exact wpIn_goto ⟨st, hr, h⟩
theorem awp_scope {x y : AC} (l : Nat) (hf : findA x l = some y) (J : St → Prop) (first : AWp P E x st (jumpQ l J Q)) (pass : ∀ st, J st → AWp P E y st (nogQ Q)) : AWp P E (.scope x) st Q := by
  intro n code hc a w hr
  cases code <;> simp only [trCode] at hc <;> first | (cases hc; done) | (exact Bool.noConfusion (show false = true from trReg_isReg hc)) | (split at hc <;> cases hc; done) | skip
  rename_i c
  injection hc with h1
  subst h1
  rw [findA_tr] at hf
  obtain ⟨rest, hfl, rfl⟩ := Option.map_eq_some_iff.1 hf
  refine wpIn_scope l (fun a w => ∃ st, Rel E st a w ∧ J st) hfl (wpIn_mono (first n c rfl a w hr) ?_) ?_
  · rintro e a' w' ⟨st', g1, g2⟩
    cases e with
    | goto l' => exact ⟨g2.1, st', g1, g2.2⟩
    | normal => exact ⟨st', g1, g2⟩
    | exit id => exact ⟨st', g1, g2⟩
    | ret => exact ⟨st', g1, g2⟩
    | panic ch => exact ⟨st', g1, g2⟩
    | outgrown => exact ⟨st', g1, g2⟩
  · rintro a w ⟨st', g1, g2⟩
    refine wpIn_mono (pass st' g2 n rest rfl a w g1) ?_
    rintro e a' w' ⟨st', g1, g2⟩
    cases e with
    | goto l' => exact g2
    | normal => exact ⟨st', g1, g2⟩
    | exit id => exact ⟨st', g1, g2⟩
    | ret => exact ⟨st', g1, g2⟩
    | panic ch => exact ⟨st', g1, g2⟩
    | outgrown => exact ⟨st', g1, g2⟩
theorem rel_weaken {st st' : St} {a : Act} {w : World} (h : Rel E st a w) (hs : leS st.s st'.s) (hh : leH st.h st'.h) : Rel E st' a w := by
  obtain ⟨ρ, h⟩ := h
  exact ⟨ρ, h.weaken hs hh⟩
theorem awp_weaken {c : AC} (st' : St) (hs : leS st.s st'.s) (hh : leH st.h st'.h) (h : AWp P E c st' Q) : AWp P E c st Q :=
  fun n code hc a w hr => h n code hc a w (rel_weaken hr hs hh)
theorem awp_freeze {c : AC} (id : Nat) (h : AWp P E c (freeze st id) Q) : AWp P E c st Q :=
  fun n code hc a w hr => h n code hc a w (by obtain ⟨ρ, hr⟩ := hr; exact ⟨ρ, hr.freeze id⟩)
/-- a loop: the states that come round, with a number that falls -/
theorem awp_loop {x : AC} (I : Nat → St → Prop) (n : Nat) (h0 : I n st)
    (round : ∀ n st, I n st → AWp P E x st (thenQ (fun st' => ∃ m, m < n ∧ I m st') Q)) : AWp P E (.loop x) st Q := by
  intro rm code hc a w hr
  cases code <;> simp only [trCode] at hc <;> first | (cases hc; done) | (exact Bool.noConfusion (show false = true from trReg_isReg hc)) | (split at hc <;> cases hc; done) | skip
  rename_i c1
  injection hc with h1
  refine wpIn_loop_ghost (fun n a w => ∃ st, Rel E st a w ∧ I n st) n ⟨st, hr, h0⟩ ?_
  rintro n a w ⟨st', g1, g2⟩
  refine wpIn_mono (round n st' g2 rm c1 h1 a w g1) ?_
  rintro e a' w' ⟨st2, q1, q2⟩
  cases e with
  | normal =>
    obtain ⟨m, hm, q2⟩ := q2
    exact ⟨m, hm, st2, q1, q2⟩
  | exit i => exact ⟨st2, q1, q2⟩
  | goto l => exact ⟨st2, q1, q2⟩
  | ret => exact ⟨st2, q1, q2⟩
  | panic ch => exact ⟨st2, q1, q2⟩
  | outgrown => exact ⟨st2, q1, q2⟩
end

/- CONTRACTS -/
abbrev HP := List (Nat × Win)
/-- from every world in which the windows h and the arguments lie, the call returns; behind it the windows and the result are as Post says, and nothing else has turned -/
def Spec (P : Program) (f : Nat) (h : HP) (args : List AV) (Post : HP → AV → List AV → Prop) : Prop :=
  ∀ (X0 : Nat → Prop) (ρ : Loc) (w : World) (vs : Array Value), HRel X0 ρ h w → AmbO (OwnB ρ h) w → (∀ b, X0 b → b < w.heap.size) → vs.size = args.length →
    (∀ (j : Nat) v x, vs[j]? = some v → args[j]? = some x → RV (XX X0 ρ h) w ρ v x) →
    Calls P f vs w fun e w' => ∃ v h' r ρ' as, e = .returned v ∧ Post h' r as ∧ HRel X0 ρ' h' w' ∧ RV (XX X0 ρ' h') w' ρ' v r ∧
      as.length = args.length ∧ (∀ (j : Nat) v x, vs[j]? = some v → as[j]? = some x → RV (XX X0 ρ' h') w' ρ' v x) ∧
      w'.os = w.os ∧ w'.tape = w.tape ∧ w'.output = w.output ∧ w.heap.size ≤ w'.heap.size ∧ (∀ b, b < w.heap.size → ¬ OwnB ρ h b → w'.heap[b]? = w.heap[b]?) ∧
      (∀ b, OwnB ρ' h' b → w.heap.size ≤ b ∨ OwnB ρ h b)
/-- the result variables of a function, on states -/
inductive RVar where
  | tmp (t : Nat)
  | cell (t : Nat) (ag : Bool) (n : Nat)
  | bad
def trRes (P : Program) : ResultVar → RVar
  | .tmp t => .tmp t
  | .cell b t => match aggOf P t, szOf P t with
    | some ag, some n => if b < 2000000 then .cell b ag n else .bad
    | _, _ => .bad
def ldO (ag : Bool) (n : Nat) (cs : List AV) : Option AV :=
  match ag with
  | true => if n ≤ cs.length then some (.agg (cs.take n)) else none
  | false => match cs with
    | [] => none
    | c :: _ => some c
def resW (ag : Bool) (n f : Nat) : Option Win → Option AV
  | some (.var cs) => ldO ag n (cs.drop f)
  | _ => none
def resC (st : St) (ag : Bool) (n : Nat) : Option AV → Option AV
  | some (.vptr id f) => resW ag n f (hget st.h id)
  | _ => none
def consO : Option AV → Option (List AV) → Option (List AV)
  | some x, some l => some (x :: l)
  | _, _ => none
def resAV (st : St) : List RVar → Option (List AV)
  | [] => some []
  | .tmp t :: r => (resAV st r).map fun l => ev st (trE (.tmp t)) :: l
  | .cell t ag n :: r => consO (resC st ag n (sget st.s t)) (resAV st r)
  | .bad :: _ => none
def resOf (st : St) (rs : List RVar) : Option AV :=
  match resAV st rs with
  | some [x] => some x
  | some l => some (.tup l)
  | none => none
def numbered : Nat → List AV → List (Nat × AV)
  | _, [] => []
  | k, x :: r => (k, x) :: numbered (k + 1) r
/-- the arguments, read again -/
def argsAgain (st : St) : Nat → Nat → List AV
  | _, 0 => []
  | k, n + 1 => (sget st.s (2000000 + k)).getD .undef :: argsAgain st (k + 1) n
def postQ (rs : List RVar) (n : Nat) (Post : HP → AV → List AV → Prop) : Exit → St → Prop
  | .normal, st | .ret, st => ∃ r, resOf st rs = some r ∧ Post st.h r (argsAgain st 0 n)
  | _, _ => False
theorem argsAgain_length (st : St) : ∀ n k, (argsAgain st k n).length = n
  | 0, _ => rfl
  | n + 1, k => by simp [argsAgain, argsAgain_length st n]
theorem argsAgain_get (st : St) : ∀ n k j x, (argsAgain st k n)[j]? = some x → x = (sget st.s (2000000 + (k + j))).getD .undef
  | 0, _, j, x, h => by simp [argsAgain] at h
  | n + 1, k, 0, x, h => by simp [argsAgain] at h; exact h.symm
  | n + 1, k, j + 1, x, h => by
    have := argsAgain_get st n (k + 1) j x (by simpa [argsAgain] using h)
    rw [this, show k + 1 + j = k + (j + 1) by omega]
theorem sget_numbered : ∀ (l : List AV) (k j : Nat) (x : AV), sget (numbered k l) j = some x → k ≤ j ∧ l[j - k]? = some x
  | [], k, j, x, h => by simp [numbered, sget] at h
  | y :: r, k, j, x, h => by
    simp only [numbered, sget] at h
    split at h
    · rename_i e; subst e
      obtain rfl := Option.some.inj h
      exact ⟨Nat.le_refl _, by simp⟩
    · rename_i hne
      obtain ⟨h1, h2⟩ := sget_numbered r (k + 1) j x h
      refine ⟨by omega, ?_⟩
      rw [show j - k = (j - (k + 1)) + 1 by omega]
      simpa using h2
def resV (tmps : Array Value) (x : ResultVar) : Sem Value :=
  match x with
  | .tmp t => pure (tmps.getD t undef)
  | .cell b t => do loadVar t (← asAddr (tmps.getD b undef))
theorem results_eq (fn : Func) (tmps : Array Value) : results fn tmps = (do
    let vs ← fn.results.mapM (resV tmps)
    pure (if h : vs.size = 1 then vs[0] else .tuple vs)) := rfl
theorem resAV_sound {P : Program} {E : Env} {ρ : Loc} {st : St} {a : Act} {w : World} (h : RelAt E ρ st a w) : ∀ (rs : List ResultVar) (l : List AV), resAV st (rs.map (trRes P)) = some l →
    ∃ vs : List Value, (rs.mapM (resV a.tmps)).run P w = .ok vs w ∧ vs.length = l.length ∧ ∀ (j : Nat) v x, vs[j]? = some v → l[j]? = some x → RV (XX E.X0 ρ st.h) w ρ v x
  | [], l, hl => by
    obtain rfl := Option.some.inj hl
    exact ⟨[], by simp, rfl, fun j v x h1 _ => by simp at h1⟩
  | .tmp t :: r, l, hl => by
    simp only [List.map_cons, trRes, resAV] at hl
    obtain ⟨l', h1, rfl⟩ := Option.map_eq_some_iff.1 hl
    obtain ⟨vs, h2, h3, h4⟩ := resAV_sound (P := P) h r l' h1
    refine ⟨a.eval (.tmp t) :: vs, ?_, by simp [h3], fun j v x e1 e2 => ?_⟩
    · have e : resV a.tmps (.tmp t) = pure (a.eval (.tmp t)) := rfl
      rw [List.mapM_cons, e]
      simp [h2]
    · cases j with
      | zero =>
        simp only [List.getElem?_cons_zero, Option.some.injEq] at e1 e2
        subst e1; subst e2
        exact evalRV h (.tmp t)
      | succ j => exact h4 j v x (by simpa using e1) (by simpa using e2)
  | .cell b t :: r, l, hl => by
    simp only [List.map_cons, trRes] at hl
    split at hl
    rotate_left
    · simp [resAV] at hl
    rename_i ag n hag hn
    split at hl
    rotate_left
    · simp [resAV] at hl
    rename_i hb
    simp only [resAV] at hl
    cases hx : resC st ag n (sget st.s b) with
    | none => rw [hx] at hl; simp [consO] at hl
    | some x =>
      cases hy : resAV st (r.map (trRes P)) with
      | none => rw [hx, hy] at hl; simp [consO] at hl
      | some l' =>
        rw [hx, hy] at hl
        obtain rfl : x :: l' = l := by simpa [consO] using hl
        obtain ⟨vs, h2, h3, h4⟩ := resAV_sound (P := P) h r l' hy
        obtain ⟨v, g1, g2⟩ : ∃ v, Runs P w (resV a.tmps (.cell b t)) v ∧ RV (XX E.X0 ρ st.h) w ρ v x := by
          unfold resC at hx
          split at hx
          rotate_left
          · cases hx
          rename_i id f hs
          unfold resW at hx
          split at hx
          rotate_left
          · cases hx
          rename_i cs hid
          obtain ⟨e1, e2⟩ := h.slots b _ hs
          unfold sval at e2
          rw [if_pos (e1.resolve_right (Nat.not_le.2 hb))] at e2
          have hl : avalLd true st ag n (.vptr id f) (fun y => y = x) := by
            simp only [avalLd, hid]
            unfold ldc
            cases ag with
            | true =>
              simp only [ldO] at hx
              split at hx
              · rename_i hle
                simp only [if_true]
                exact ⟨fun _ => hle, Option.some.inj hx⟩
              · cases hx
            | false =>
              simp only [ldO] at hx
              split at hx
              · cases hx
              · rename_i c r' hc
                obtain rfl := Option.some.inj hx
                simp [hc]
          obtain ⟨v', av, q1, q2, q3⟩ := avalLd_sound (P := P) h hag hn e2 hl rfl
          subst q3
          refine ⟨v', fun w' hw => ?_, q2⟩
          have q := q1 w' hw
          simp only [resV]
          generalize a.tmps.getD b undef = tv at e2 q
          cases e2 with
          | vptr _ _ _ L b' hL hb' =>
            simp only [asAddr, Sem.run_bind, Sem.run_pure, Result.andThen_ok]
            simpa [Instr.loadAt, Instr.sureAddr] using q
        refine ⟨v :: vs, ?_, by simp [h3], fun j u y e1 e2 => ?_⟩
        · rw [List.mapM_cons]
          simp [g1.here, h2]
        · cases j with
          | zero =>
            simp only [List.getElem?_cons_zero, Option.some.injEq] at e1 e2
            subst e1; subst e2
            exact g2
          | succ j => exact h4 j u y (by simpa using e1) (by simpa using e2)
theorem resOf_sound {P : Program} {E : Env} {ρ : Loc} {st : St} {a : Act} {w : World} (h : RelAt E ρ st a w) {fn : Func} {r : AV} (hr : resOf st (fn.results.toList.map (trRes P)) = some r) :
    ∃ v, (results fn a.tmps).run P w = .ok v w ∧ RV (XX E.X0 ρ st.h) w ρ v r := by
  unfold resOf at hr
  have key : ∀ l, resAV st (fn.results.toList.map (trRes P)) = some l → ∃ vs : List Value, (results fn a.tmps).run P w = .ok (if hh : vs.length = 1 then vs[0] else .tuple vs.toArray) w ∧ vs.length = l.length ∧
      ∀ (j : Nat) v x, vs[j]? = some v → l[j]? = some x → RV (XX E.X0 ρ st.h) w ρ v x := by
    intro l hl
    obtain ⟨vs, h1, h2, h3⟩ := resAV_sound (P := P) h _ l hl
    refine ⟨vs, ?_, h2, h3⟩
    rw [results_eq, Array.mapM_eq_mapM_toList]
    simp only [Sem.run_bind, Sem.run_map, h1, Result.andThen_ok, Sem.run_pure]
    simp
  split at hr
  · rename_i x hx
    obtain rfl := Option.some.inj hr
    obtain ⟨vs, h1, h2, h3⟩ := key _ hx
    have h2' : vs.length = 1 := by simpa using h2
    rw [dif_pos h2'] at h1
    exact ⟨_, h1, h3 0 _ _ (List.getElem?_eq_getElem _) rfl⟩
  · rename_i l hne hl
    obtain rfl := Option.some.inj hr
    obtain ⟨vs, h1, h2, h3⟩ := key _ hl
    have h2' : ¬ vs.length = 1 := by
      intro e
      rw [h2] at e
      obtain ⟨x, rfl⟩ := List.length_eq_one_iff.1 e
      exact hne x rfl
    rw [dif_neg h2'] at h1
    exact ⟨_, h1, .tup _ _ _ (by simpa using h2) (fun j v x e1 e2 => h3 j v x (by simpa using e1) e2)⟩
  · cases hr
theorem sget_append (l r : List (Nat × AV)) (k : Nat) : sget (l ++ r) k = (sget l k).or (sget r k) := by
  induction l with
  | nil => simp [sget]
  | cons x l ih =>
    obtain ⟨j, v⟩ := x
    simp only [List.cons_append, sget, ih]
    split <;> simp
def startS (args : List AV) : List (Nat × AV) := numbered 0 args ++ numbered 2000000 args
/-- blocks that hold no cells may turn -/
theorem RV.other {X : Nat → Prop} {w w' : World} {ρ : Loc} {v : Value} {a : AV} (h : RV X w ρ v a) (hw : ∀ b cur t fz, ¬ X b → w.heap[b]? = some (.cells cur t fz) → w'.heap[b]? = w.heap[b]?) : RV X w' ρ v a := by
  have up : ∀ (ad : Addr) v, ¬ X ad.block → w.cell? ad = some v → w'.cell? ad = some v := by
    intro ad v hx hv
    obtain ⟨cur, t, fz, hc⟩ : ∃ cur t fz, w.heap[ad.block]? = some (.cells cur t fz) := by
      unfold World.cell? at hv
      split at hv
      · rename_i cur t fz hc; exact ⟨_, _, _, hc⟩
      · cases hv
    rw [cell_same (hw _ cur t fz hx hc), hv]
  induction h with
  | undef ρ v => exact .undef _ _
  | bool ρ b => exact .bool _ _
  | int ρ k n => exact .int _ _ _
  | fl ρ k b => exact .fl _ _ _
  | cx ρ k re im => exact .cx _ _ _ _
  | str ρ s => exact .str _ _
  | lit ρ x => exact .lit _ _
  | nilsl ρ => exact .nilsl _
  | ro ρ A c sz es vs hc hsz hlen hcell hrel ih =>
    refine .ro _ _ _ _ _ vs hc hsz hlen (fun j hj => ?_) ih
    obtain ⟨ad, h1, h2, h3, h4⟩ := hcell j hj
    refine ⟨ad, h1, h2, h3, ?_⟩
    rw [List.getElem?_eq_getElem hj] at h4 ⊢
    exact up _ _ (by rw [block_add]; exact h3) h4
  | elt ρ ad x vs hsp hlen hcell hrel ih =>
    refine .elt _ _ _ vs hsp hlen (fun j hj => ⟨(hcell j hj).1, ?_⟩) ih
    have h4 := (hcell j hj).2
    rw [List.getElem?_eq_getElem hj] at h4 ⊢
    exact up _ _ (by rw [block_add]; exact (hcell j hj).1) h4
  | sl ρ id off n c L A hL h1 h2 h3 hA => exact .sl _ _ _ _ _ L A hL h1 h2 h3 hA
  | ptr ρ id i f L b hL hb hi hf => exact .ptr _ _ _ _ L b hL hb hi hf
  | vptr ρ id f L b hL hb => exact .vptr _ _ _ L b hL hb
  | agg ρ vs cs hlen hrel ih => exact .agg _ _ _ hlen ih
  | tup ρ vs cs hlen hrel ih => exact .tup _ _ _ hlen ih
  | clo ρ f vs cs hlen hrel ih => exact .clo _ _ _ _ hlen ih
  | gd ρ b x v h h' ih => exact .gd _ _ _ _ ih h'
theorem CellsAt.other {X : Nat → Prop} {w w' : World} {ρ : Loc} {b o cap : Nat} {cs : List AV} (h : CellsAt X w ρ b o cap cs) (hb : ∀ cur t fz, w.heap[b]? = some (.cells cur t fz) → w'.heap[b]? = w.heap[b]?)
    (hw : ∀ b cur t fz, ¬ X b → w.heap[b]? = some (.cells cur t fz) → w'.heap[b]? = w.heap[b]?) : CellsAt X w' ρ b o cap cs := by
  obtain ⟨cur, t, fz, h1, h2, h3, h4, h5⟩ := h
  exact ⟨cur, t, fz, (hb cur t fz h1).trans h1, h2, h3, h4, fun j v a e1 e2 => (h5 j v a e1 e2).other hw⟩
theorem HRel.other {X0 : Nat → Prop} {w w' : World} {ρ : Loc} {h : List (Nat × Win)} (hh : HRel X0 ρ h w) (hw : ∀ (b : Nat) cur t fz, w.heap[b]? = some (Obj.cells cur t fz) → w'.heap[b]? = w.heap[b]?) : HRel X0 ρ h w' where
  win := fun id W hW => by
    obtain ⟨L, h1, h2⟩ := hh.win id W hW
    refine ⟨L, h1, ?_⟩
    cases W with
    | arr sz es =>
      obtain ⟨g1, g2, g3, g4, g5⟩ := h2
      refine ⟨g1, g2, g3, g4, ?_⟩
      cases hLb : L.b with
      | none => rw [hLb] at g5; exact g5
      | some b => rw [hLb] at g5; exact g5.other (hw b) (fun b cur t fz _ hc => hw b cur t fz hc)
    | var cs =>
      obtain ⟨b, g1, g2⟩ := h2
      exact ⟨b, g1, g2.other (hw b) (fun b cur t fz _ hc => hw b cur t fz hc)⟩
  dist := hh.dist
  out := hh.out
theorem RelAt.other {E : Env} {ρ : Loc} {st : St} {a : Act} {w w' : World} (h : RelAt E ρ st a w) {ds : List Deferred} (h1 : w'.os = w.os) (h2 : w'.tape = w.tape) (h3 : w'.output = w.output) (h4 : w.heap.size ≤ w'.heap.size)
    (hw : ∀ (b : Nat) cur t fz, w.heap[b]? = some (Obj.cells cur t fz) → w'.heap[b]? = w.heap[b]?) (hf : ∀ b, b < E.w0.heap.size → ¬ E.F b → w'.heap[b]? = w.heap[b]?) (hd : DfOK E.dn E.df ds w') : RelAt E ρ st { a with defers := ds } w' where
  defers := hd
  size := h.size
  slots := fun k av hk => ⟨(h.slots k av hk).1, (h.slots k av hk).2.other (fun b cur t fz _ hc => hw b cur t fz hc)⟩
  heap := h.heap.other hw
  base := h.base
  frm := ⟨h1.trans h.frm.os, h2.trans h.frm.tape, h3.trans h.frm.output, Nat.le_trans h.frm.size h4, fun b hb hF => (hf b hb hF).trans (h.frm.block b hb hF), h.frm.amb⟩
  x0 := fun b hb => Nat.lt_of_lt_of_le (h.x0 b hb) h4
/-- at the end the marks of the loops over iterators are taken up -/
theorem leaves_marks {P : Program} {E : Env} {ρ : Loc} {st : St} {a : Act} {fn : Func} {R : Ending → World → Prop} {u : FrameMode} (hu : u ≠ .run) {rest : List Deferred}
    (hR : ∀ w, RelAt E ρ st { a with defers := rest } w → LeavesInM Fence.wide 0 P fn a.tmps R rest u w) (hE : E.w0.heap.size = E.dn) (hdf : rest = E.df) :
    ∀ (Ds : List Nat) (w : World), RelAt E ρ st { a with defers := Ds.map markD ++ rest } w → LeavesInM Fence.wide 0 P fn a.tmps R (Ds.map markD ++ rest) u w
  | [], w, h => hR w h
  | D :: Ds, w, h => by
    obtain ⟨h1, h2, h3⟩ := h.defers
    have hm : marksOf ((D :: Ds).map markD ++ rest) = D :: marksOf (Ds.map markD ++ rest) := rfl
    simp only [hm] at h2 h3
    have hD := h3 D (List.mem_cons_self ..)
    refine ⟨hu, .inl ⟨D, _, rfl, run_takeDeferred hD.2, ?_⟩⟩
    rw [List.nodup_cons] at h2
    have hne : ∀ b, b ≠ D → (w.putObj D (.deferred none)).heap[b]? = w.heap[b]? := fun b hb => World.putObj_heap_other hb
    refine leaves_marks hu hR hE hdf Ds _ ?_
    refine h.other rfl rfl rfl (by simp) (fun b cur t fz hc => hne b (fun e => by subst e; rw [hD.2] at hc; cases hc)) (fun b hb _ => hne b (fun e => by have := hD.1; omega)) ⟨⟨Ds, by rw [hdf]⟩, h2.2, fun D' hm' => ?_⟩
    have := h3 D' (List.mem_cons_of_mem _ hm')
    exact ⟨this.1, (hne D' (fun e => h2.1 (e ▸ hm'))).trans this.2⟩
/-- a function keeps its contract, if its code does -/
theorem spec_of {P : Program} {f : Nat} {fn : Func} {body : Code} {h : HP} {args : List AV} {Post : HP → AV → List AV → Prop} {c : AC} (hf : P.funcs[f]? = some fn) (hb : fn.body = some body) {B : Nat} (hc : trCode P fn.ntmps B body = c)
    (hN : fn.ntmps ≤ 1000000) (ha : args.length ≤ fn.ntmps) (hp : ∀ E : Env, E.N = fn.ntmps → E.B = B → E.rd = none → AWp P E c ⟨startS args, h⟩ (postQ (fn.results.toList.map (trRes P)) args.length Post)) : Spec P f h args Post := by
  intro X0 ρ w vs hh hA hX hvs hrv
  let E : Env := ⟨w, OwnB ρ h, X0, fn.ntmps, B, fun k => vs.getD (k - 2000000) undef, none, w.heap.size, Nat.le_refl _, []⟩
  refine (callsIn_wide (n := 0)).1 (callsIn_of_wp_marks hf hb trivial (wpIn_mono (hp E rfl rfl rfl 0 body hc _ w ⟨ρ, ?_⟩) ?_))
  · refine ⟨DfOK.nil _ _, by simp [E]; omega, fun k av hk => ?_, hh, fun id W L b h1 h2 h3 => .inr ⟨id, W, L, h1, h2, h3⟩, ⟨rfl, rfl, rfl, Nat.le_refl _, fun _ _ _ => rfl, hA⟩, hX⟩
    simp only [startS, sget_append] at hk
    cases h0 : sget (numbered 0 args) k with
    | some av0 =>
      rw [h0] at hk
      obtain rfl := Option.some.inj hk
      obtain ⟨_, h2⟩ := sget_numbered args 0 k _ h0
      have hlt : k < args.length := (List.getElem?_eq_some_iff.1 h2).1
      have hlt2 : k < E.N := by simp only [E]; omega
      refine ⟨.inl hlt2, ?_⟩
      have hv : vs[k]? = some (vs[k]'(by omega)) := Array.getElem?_eq_getElem _
      unfold sval
      rw [if_pos hlt2, Array.getD_eq_getD_getElem?, Array.getElem?_append_left (by omega), hv]
      exact hrv k _ _ hv h2
    | none =>
      rw [h0] at hk
      obtain ⟨h1, h2⟩ := sget_numbered args 2000000 k av hk
      have hlt : k - 2000000 < args.length := (List.getElem?_eq_some_iff.1 h2).1
      refine ⟨.inr h1, ?_⟩
      have hv : vs[k - 2000000]? = some (vs[k - 2000000]'(by omega)) := Array.getElem?_eq_getElem _
      unfold sval
      rw [if_neg (by simp only [E]; omega)]
      simp only [E, Array.getD_eq_getD_getElem?, hv]
      exact hrv _ _ av hv h2
  · rintro e a' w' ⟨st', ⟨ρ', g0⟩, q⟩
    have fin : ∀ r, resOf st' (fn.results.toList.map (trRes P)) = some r → Post st'.h r (argsAgain st' 0 args.length) → bodyPostM Fence.wide 0 P fn (fun e w' => ∃ v h' r ρ' as, e = .returned v ∧ Post h' r as ∧ HRel X0 ρ' h' w' ∧ RV (XX X0 ρ' h') w' ρ' v r ∧
      as.length = args.length ∧ (∀ (j : Nat) v x, vs[j]? = some v → as[j]? = some x → RV (XX X0 ρ' h') w' ρ' v x) ∧
      w'.os = w.os ∧ w'.tape = w.tape ∧ w'.output = w.output ∧ w.heap.size ≤ w'.heap.size ∧ (∀ b, b < w.heap.size → ¬ OwnB ρ h b → w'.heap[b]? = w.heap[b]?) ∧
      (∀ b, OwnB ρ' h' b → w.heap.size ≤ b ∨ OwnB ρ h b)) .ret a' w' := by
      intro r hr hP
      obtain ⟨⟨Ds, hDs⟩, _⟩ := g0.defers
      show LeavesInM Fence.wide 0 P fn a'.tmps _ a'.defers .returning w'
      rw [hDs]
      refine leaves_marks (E := E) (ρ := ρ') (st := st') (a := a') (by simp) (fun w' g => ?_) rfl rfl Ds w' (by rw [← hDs]; exact g0)
      obtain ⟨v, g1, g2⟩ := resOf_sound (P := P) g hr
      refine ⟨v, g1, v, st'.h, r, ρ', _, rfl, hP, g.heap, g2, argsAgain_length _ _ _, fun j v x e1 e2 => ?_, g.frm.os, g.frm.tape, g.frm.output, g.frm.size, g.frm.block, fun b ⟨id, W, L, h1, h2, h3⟩ => g.base id W L b h1 h2 h3⟩
      have := argsAgain_get st' _ _ j x e2
      rw [Nat.zero_add] at this
      cases hs : sget st'.s (2000000 + j) with
      | none => rw [hs] at this; subst this; exact .undef _ _
      | some av =>
        rw [hs] at this
        obtain rfl : x = av := this
        have hr2 := (g.slots _ _ hs).2
        unfold sval at hr2
        rw [if_neg (by simp only [E]; omega)] at hr2
        simp only [E, Nat.add_sub_cancel_left, Array.getD_eq_getD_getElem?, e1] at hr2
        exact hr2
    cases e with
    | normal => obtain ⟨r, hr, hP⟩ := q; exact fin r hr hP
    | ret => obtain ⟨r, hr, hP⟩ := q; exact fin r hr hP
    | exit id => exact q.elim
    | goto l => exact q.elim
    | panic ch => exact q.elim
    | outgrown => exact q.elim
end Go.Proofs.YtgkcbhdpenmogaaDoor.Eng
