/- The engine, part I: code, functions, contracts. -/
import Derived.Test.YtkeleoneecofhaaDoorEngH
set_option linter.all false
namespace Go.Proofs.YtkeleoneecofhaaDoor.Eng

section
variable {P : Program} {E : Env} {ρ : Loc} {st : St} {a : Act} {w : World}
theorem fits_lt {N : Nat} {o : Oper} (h : fits N o = true) : ∀ k, o.dst = some k → k < N := by
  intro k hk
  unfold fits at h
  rw [hk] at h
  simpa using h
theorem aops_sound (hN : E.N ≤ 1000000) (ops : Array Oper) {Q : Exit → Act → World → Prop} {K : St → Prop} (hQ : ∀ st' a' w', K st' → Rel E st' a' w' → Q .normal a' w') :
    ∀ (l : List Oper) {ρ : Loc} {st : St} {a : Act} {w : World}, (∀ o ∈ l, fits E.N o = true) → RelAt E ρ st a w → aops P (l.map (trO P E.B ops false)) st K → wpList P ops Q l a w
  | [], ρ, st, a, w, _, h, hk => hQ st a w hk ⟨ρ, h⟩
  | o :: l, ρ, st, a, w, hf, h, hk => by
    have hd := fits_lt (hf o (List.mem_cons_self ..))
    have hf' : ∀ o ∈ l, fits E.N o = true := fun x hx => hf x (List.mem_cons_of_mem _ hx)
    cases hg : o.guard with
    | none =>
      have hk' : aop1 P false st (E.B + o.dst.getD 0) (trOp P o) fun v st' => aops P (l.map (trO P E.B ops false)) (put st' o.dst v) K := by
        simpa [trO, hg, aops] using hk
      refine wpList_plain hg (fun next hnext => aop1_sound h hd hk' (fun av st' ρ' a' w' h1 h2 _ => hnext _ _ ?_))
      exact aops_sound hN ops hQ l hf' h2 h1
    | some q =>
      obtain ⟨j, want⟩ := q
      simp only [List.map_cons, trO, hg, Option.map_some, aops] at hk
      split at hk
      · rename_i γ hγ
        have hy := grd_sound h hγ hN
        have hw : Region.wanted o (yielded ops a.tmps) = γ := by simp only [Region.wanted, hg]; exact hy
        refine wpList_step (fun next hnext => ?_)
        rw [hw]
        cases γ with
        | true =>
          rw [if_pos rfl]
          rcases hk with hk | hk | hk
          · cases hk.1
          · exact aop1_soundG h hd hk.2 (fun av st' ρ' a' w' h1 h2 _ => hnext _ _ (aops_sound hN ops hQ l hf' h2 h1))
          · exact aopG_sound h hd hk rfl (fun av ρ' a' w' h1 h2 _ => hnext _ _ (aops_sound hN ops hQ l hf' h2 h1))
        | false =>
          rw [if_neg (by simp)]
          have hk : ∃ v, aops P (l.map (trO P E.B ops false)) (put st o.dst (.gd false v)) K := hk.elim (fun x => ⟨_, x.2⟩) (fun x => x.elim (fun y => by cases y.1) aopG_ex)
          obtain ⟨v, hv⟩ := hk
          exact hnext _ _ (aops_sound hN ops hQ l hf' (relAt_put h hd (.gd _ _ _ _ (fun h => by cases h) (fun _ => rfl))) hv)
      · exact hk.elim

/- A REGION WHOSE ORDER IS OPEN -/
def valO : AO → Bool
  | .call _ _ => false
  | .bad => false
  | o => !isEff o
def waits (i : Nat) (o : Oper) : Bool := o.after.any fun e => Region.binds .any e && e.on == i
/-- must it leave all that stands as it is? if some value is free to come ahead of it or behind it -/
def flagQ (P : Program) (ops : Array Oper) (j : Nat) (oj : Oper) : Bool :=
  (List.range ops.size).any fun i => match ops[i]? with
    | some oi => i != j && valO (trOp P oi) && !(waits i oj) && !(waits j oi)
    | none => false
def quietAt (P : Program) (ops : Array Oper) (j : Nat) : Bool :=
  match ops[j]? with
  | some o => quietO (flagQ P ops j o) (trOp P o)
  | none => true
def takeable (P : Program) (ops : Array Oper) (listed : Array Bool) (i : Nat) : Bool :=
  match ops[i]? with
  | none => false
  | some oi => valO (trOp P oi) && (List.range ops.size).all fun j => j == i || listed.getD j true || match ops[j]? with
    | some oj => waits i oj || (oi.apart ops oj && quietAt P ops j)
    | none => true
def trI (P : Program) (B : Nat) (ops : Array Oper) (i : Nat) : Option AOp := (ops[i]?).map fun o => trO P B ops (flagQ P ops i o) o
def linGo (P : Program) (ops : Array Oper) : Nat → Array Bool → Option (List Nat)
  | 0, listed => match Region.ready .any ops listed with
    | [] => some []
    | _ => none
  | f + 1, listed => match Region.ready .any ops listed with
    | [] => some []
    | i :: rs => match (i :: rs).find? (takeable P ops listed) with
      | some k => (linGo P ops f (listed.setIfInBounds k true)).map (k :: ·)
      | none => match rs with
        | [] => (linGo P ops f (listed.setIfInBounds i true)).map (i :: ·)
        | _ => none
def onlyN (E : Env) (K : St → Prop) : Exit → Act → World → Prop := fun e a w => e = .normal ∧ ∃ st, Rel E st a w ∧ K st
theorem valO_aop1 {q : Bool} {st : St} {id : Nat} {o : AO} {K : AV → St → Prop} (hv : valO o = true) (h : aop1 P q st id o K) : aval true st o fun v => K v st := by
  unfold aop1 at h
  split at h
  · simp [valO] at hv
  · rename_i hc
    split at h
    · rename_i he; cases o <;> simp_all [valO]
    · exact h
theorem valO_aopG {q γ : Bool} {st : St} {o : AO} {K : AV → Prop} (hv : valO o = true) (h : aopG P q γ st o K) : aval γ st o K := by
  unfold aopG at h
  split at h
  · simp [valO] at hv
  · exact h
theorem lin_sound (hN : E.N ≤ 1000000) (ops : Array Oper) (hns : Region.noSelect ops = true) (hf : ∀ o ∈ ops.toList, fits E.N o = true) {K : St → Prop} :
    ∀ (fuel : Nat) (listed : Array Bool) (L : List Nat) {ρ : Loc} {st : St} {a : Act} {w : World}, linGo P ops fuel listed = some L → RelAt E ρ st a w → aops P (L.filterMap (trI P E.B ops)) st K →
      wpAnyR P .any ops (onlyN E K) (quietAt P ops) fuel listed a w
  | 0, listed, L, ρ, st, a, w, hl, h, hk => by
    simp only [linGo] at hl
    split at hl
    · rename_i hr
      obtain rfl := Option.some.inj hl
      exact ⟨hr, rfl, st, ⟨ρ, h⟩, hk⟩
    · cases hl
  | f + 1, listed, L, ρ, st, a, w, hl, h, hk => by
    simp only [linGo] at hl
    split at hl
    · rename_i hr
      obtain rfl := Option.some.inj hl
      exact ⟨fun _ => ⟨rfl, st, ⟨ρ, h⟩, hk⟩, by rw [hr]; simp⟩
    · rename_i i rs hr
      split at hl
      · rename_i k hfind
        obtain ⟨L', hl', rfl⟩ := Option.map_eq_some_iff.1 hl
        have hmem : k ∈ Region.ready .any ops listed := by rw [hr]; exact List.mem_of_find?_eq_some hfind
        have htk := List.find?_some hfind
        obtain ⟨hun, o, ho, hall⟩ := mem_ready.1 hmem
        have hom : o ∈ ops.toList := by
          have := Array.mem_of_getElem? ho
          simpa using this
        have hd := fits_lt (hf o hom)
        unfold takeable at htk
        rw [ho] at htk
        simp only [Bool.and_eq_true, List.all_eq_true, List.mem_range] at htk
        obtain ⟨hval, htk⟩ := htk
        have hfree : ∀ j oj, ops[j]? = some oj → j ≠ k → listed.getD j true = false → (∀ e ∈ oj.after, Region.binds .any e = true → e.on ≠ k) → o.apart ops oj = true ∧ quietAt P ops j = true := by
          intro j oj hj hne hjl hno
          have := htk j (Array.getElem?_eq_some_iff.1 hj).1
          rw [hj] at this
          simp only [Bool.or_eq_true, beq_iff_eq, hne, false_or, hjl, Bool.false_eq_true, Bool.and_eq_true] at this
          rcases this with h1 | h1
          · unfold waits at h1
            obtain ⟨e, he, hb⟩ := Array.any_eq_true'.1 h1
            simp only [Bool.and_eq_true, beq_iff_eq] at hb
            exact absurd hb.2 (hno e he hb.1)
          · exact h1
        have go : ∀ v, YieldsIf P ops (Same w) o v a → wpAnyR P .any ops (onlyN E K) (quietAt P ops) f (listed.setIfInBounds k true) (a.put o.dst v) w → wpAnyR P .any ops (onlyN E K) (quietAt P ops) (f + 1) listed a w :=
          fun v hy hw => wpAnyR_first ho (Region.noSelect_spec hns) (fun c a w hq => by cases hq.1) f listed a w hfree hmem hy (Same.refl w) hw
        have htr : trI P E.B ops k = some (trO P E.B ops (flagQ P ops k o) o) := by simp [trI, ho]
        rw [List.filterMap_cons, htr] at hk
        simp only [trO] at hk
        cases hg : o.guard with
        | none =>
          simp only [hg, Option.map_none, aops] at hk
          obtain ⟨v, av, h1, h2, h3⟩ := aval_sound (P := P) h (valO_aop1 hval hk) rfl
          exact go v (.inl ⟨by simp [Region.wanted, hg], fun w' hs => h1 w' hs⟩) (lin_sound hN ops hns hf f _ L' hl' (relAt_put h hd h2) h3)
        | some q =>
          obtain ⟨j, want⟩ := q
          simp only [hg, Option.map_some, aops] at hk
          split at hk
          · rename_i γ hγ
            have hy := grd_sound h hγ hN
            have hw : Region.wanted o (yielded ops a.tmps) = γ := by simp only [Region.wanted, hg]; exact hy
            cases γ with
            | true =>
              have hk : aval true st (trOp P o) fun v => aops P (L'.filterMap (trI P E.B ops)) (put st o.dst (.gd true v)) K := by
                rcases hk with hk | hk | hk
                · cases hk.1
                · exact valO_aop1 hval hk.2
                · exact valO_aopG hval hk
              obtain ⟨v, av, h1, h2, h3⟩ := aval_sound (P := P) h hk rfl
              exact go v (.inl ⟨hw, fun w' hs => h1 w' hs⟩) (lin_sound hN ops hns hf f _ L' hl' (relAt_put h hd (.gd _ _ _ _ (fun _ => h2) (fun h => by cases h))) h3)
            | false =>
              have hk : ∃ v, aops P (L'.filterMap (trI P E.B ops)) (put st o.dst (.gd false v)) K := hk.elim (fun x => ⟨_, x.2⟩) (fun x => x.elim (fun y => by cases y.1) aopG_ex)
              obtain ⟨v, hv⟩ := hk
              exact go undef (.inr ⟨hw, rfl⟩) (lin_sound hN ops hns hf f _ L' hl' (relAt_put h hd (.gd _ _ _ _ (fun h => by cases h) (fun _ => rfl))) hv)
          · exact hk.elim
      · split at hl
        · obtain ⟨L', hl', rfl⟩ := Option.map_eq_some_iff.1 hl
          refine ⟨fun e => (by rw [hr] at e; cases e), fun k hmem => ?_⟩
          obtain ⟨hun, o, ho, hall⟩ := mem_ready.1 hmem
          rw [hr] at hmem
          obtain rfl : k = i := by simpa using hmem
          have hom : o ∈ ops.toList := by
            have := Array.mem_of_getElem? ho
            simpa using this
          have hd := fits_lt (hf o hom)
          have hqa : quietAt P ops k = quietO (flagQ P ops k o) (trOp P o) := by simp [quietAt, ho]
          have htr : trI P E.B ops k = some (trO P E.B ops (flagQ P ops k o) o) := by simp [trI, ho]
          rw [List.filterMap_cons, htr] at hk
          simp only [trO] at hk
          unfold wpOp
          simp only [ho, hqa]
          cases hg : o.guard with
          | none =>
            simp only [hg, Option.map_none, aops] at hk
            rw [if_pos (by simp [Region.wanted, hg])]
            exact .inl (aop1_sound h hd hk (fun av st' ρ' a' w' h1 h2 h3 => ⟨h3, lin_sound hN ops hns hf f _ L' hl' h2 h1⟩))
          | some q =>
            obtain ⟨j, want⟩ := q
            simp only [hg, Option.map_some, aops] at hk
            split at hk
            · rename_i γ hγ
              have hy := grd_sound h hγ hN
              have hw : Region.wanted o (yielded ops a.tmps) = γ := by simp only [Region.wanted, hg]; exact hy
              rw [hw]
              cases γ with
              | true =>
                rw [if_pos rfl]
                rcases hk with hk | hk | hk
                · cases hk.1
                · exact .inl (aop1_soundG h hd hk.2 (fun av st' ρ' a' w' h1 h2 h3 => ⟨h3, lin_sound hN ops hns hf f _ L' hl' h2 h1⟩))
                · exact .inl (aopG_sound h hd hk rfl (fun av ρ' a' w' h1 h2 h3 => ⟨h3, lin_sound hN ops hns hf f _ L' hl' h2 h1⟩))
              | false =>
                rw [if_neg (by simp)]
                have hk : ∃ v, aops P (L'.filterMap (trI P E.B ops)) (put st o.dst (.gd false v)) K := hk.elim (fun x => ⟨_, x.2⟩) (fun x => x.elim (fun y => by cases y.1) aopG_ex)
                obtain ⟨v, hv⟩ := hk
                exact ⟨fun _ => Same.refl w, lin_sound hN ops hns hf f _ L' hl' (relAt_put h hd (.gd _ _ _ _ (fun h => by cases h) (fun _ => rfl))) hv⟩
            · exact hk.elim
        · cases hl
end

/- CODE -/
inductive AC where
  | skip
  | reg (ops : List AOp)
  | seq (x y : AC)
  | cond (c : AE) (x y : AC)
  | block (id : Nat) (x : AC)
  | loop (x : AC)
  | exit (id : Nat)
  | ret
  | bad
def regOps (P : Program) (N B : Nat) (ops : Array Oper) (draw : Bool) : Option (List AOp) :=
  if ops.toList.all (fits N) then
    if draw then
      if P.follows .mixedOrders && Region.noSelect ops then (linGo P ops ops.size (Array.replicate ops.size false)).map fun L => L.filterMap (trI P B ops)
      else none
    else some (ops.toList.map (trO P B ops false))
  else none
def trCode (P : Program) (N B : Nat) : Code → AC
  | .skip => .skip
  | .region _ ops draw => match regOps P N B ops draw with
    | some l => .reg l
    | none => .bad
  | .seq a b => .seq (trCode P N B a) (trCode P N B b)
  | .cond c x y => .cond (trE c) (trCode P N B x) (trCode P N B y)
  | .block id x => .block id (trCode P N B x)
  | .loop x => .loop (trCode P N B x)
  | .exit id => .exit id
  | .ret => .ret
  | _ => .bad
def lift (E : Env) (Q : Exit → St → Prop) : Exit → Act → World → Prop := fun e a w => ∃ st, Rel E st a w ∧ Q e st
/-- the code does, from every world in which the state lies, what Q says -/
def AWp (P : Program) (E : Env) (c : AC) (st : St) (Q : Exit → St → Prop) : Prop :=
  ∀ code, trCode P E.N E.B code = c → ∀ a w, Rel E st a w → code.wp P (lift E Q) a w

section
variable {P : Program} {E : Env} {st : St} {Q : Exit → St → Prop}
theorem AWp.mono {c : AC} {Q' : Exit → St → Prop} (h : AWp P E c st Q) (hq : ∀ e st, Q e st → Q' e st) : AWp P E c st Q' :=
  fun code hc a w hr => wp_mono (h code hc a w hr) (fun e a w ⟨st', h1, h2⟩ => ⟨st', h1, hq e st' h2⟩)
theorem awp_skip (h : Q .normal st) : AWp P E .skip st Q := by
  intro code hc a w hr
  cases code <;> simp only [trCode] at hc <;> first | (cases hc; done) | (split at hc <;> cases hc; done) | skip
  exact wp_skip ⟨st, hr, h⟩
theorem region_wp (hN : E.N ≤ 1000000) {ops : List AOp} {code : Code} (hc : trCode P E.N E.B code = .reg ops) {K : St → Prop} (hk : aops P ops st K) {a : Act} {w : World} (hr : Rel E st a w)
    {Q : Exit → Act → World → Prop} (hQ : ∀ st' a' w', K st' → Rel E st' a' w' → Q .normal a' w') : code.wp P Q a w := by
  cases code <;> simp only [trCode] at hc <;> first | (cases hc; done) | skip
  · rename_i id ops' draw
    obtain ⟨ρ, hρ⟩ := hr
    split at hc
    · rename_i l hl
      cases hc
      unfold regOps at hl
      split at hl
      · rename_i hf
        have hf' : ∀ o ∈ ops'.toList, fits E.N o = true := fun o ho => List.all_eq_true.1 hf o ho
        split at hl
        · rename_i hd
          subst hd
          split at hl
          · rename_i hm
            simp only [Bool.and_eq_true] at hm
            obtain ⟨L, hL, rfl⟩ := Option.map_eq_some_iff.1 hl
            refine wp_mono (wp_region_any hm.1 (wpAny_of_R _ _ _ _ (lin_sound hN ops' hm.2 hf' _ _ L hL (hρ.same (w' := { w with drawn := w.drawn + 1 }) (Same.drew w)) hk))) ?_
            rintro e a' w' ⟨rfl, st', h1, h2⟩
            exact hQ st' a' w' h2 h1
          · cases hl
        · rename_i hd
          simp only [Bool.not_eq_true] at hd
          subst hd
          obtain rfl := Option.some.inj hl
          exact wp_region_list (aops_sound hN ops' hQ ops'.toList hf' hρ hk)
      · cases hl
    · cases hc
theorem awp_reg (hN : E.N ≤ 1000000) {ops : List AOp} (h : aops P ops st (Q .normal)) : AWp P E (.reg ops) st Q :=
  fun code hc a w hr => region_wp hN hc h hr (fun st' a' w' h1 h2 => ⟨st', h2, h1⟩)
def thenQ (K : St → Prop) (Q : Exit → St → Prop) : Exit → St → Prop
  | .normal, st => K st
  | e, st => Q e st
theorem awp_seq {x y : AC} (h : AWp P E x st (thenQ (fun st' => AWp P E y st' Q) Q)) : AWp P E (.seq x y) st Q := by
  intro code hc a w hr
  cases code <;> simp only [trCode] at hc <;> first | (cases hc; done) | (split at hc <;> cases hc; done) | skip
  rename_i c1 c2
  injection hc with hc1 hc2
  refine wp_seq (wp_mono (h c1 hc1 a w hr) ?_)
  rintro e a' w' ⟨st', h1, h2⟩
  cases e with
  | normal => exact h2 c2 hc2 a' w' h1
  | exit id => exact ⟨st', h1, h2⟩
  | goto l => exact ⟨st', h1, h2⟩
  | ret => exact ⟨st', h1, h2⟩
  | panic ch => exact ⟨st', h1, h2⟩
  | outgrown => exact ⟨st', h1, h2⟩
theorem awp_cond {c : AE} {x y : AC} {b : Bool} (hc : ev st c = .bool b) (ht : b = true → AWp P E x st Q) (hf : b = false → AWp P E y st Q) : AWp P E (.cond c x y) st Q := by
  intro code hcc a w hr
  cases code <;> simp only [trCode] at hcc <;> first | (cases hcc; done) | (split at hcc <;> cases hcc; done) | skip
  rename_i co c1 c2
  injection hcc with h0 h1 h2
  have hev : a.eval co = .bool b := by
    obtain ⟨ρ, hρ⟩ := hr
    have := evalRV hρ co
    rw [h0, hc] at this
    exact RV.bool_of this
  exact wp_cond_split hev (fun hb => ht hb c1 h1 a w hr) (fun hb => hf hb c2 h2 a w hr)
def blockQ (id : Nat) (Q : Exit → St → Prop) : Exit → St → Prop
  | .exit id', st => if id' = id then Q .normal st else Q (.exit id') st
  | e, st => Q e st
theorem awp_block {id : Nat} {x : AC} (h : AWp P E x st (blockQ id Q)) : AWp P E (.block id x) st Q := by
  intro code hc a w hr
  cases code <;> simp only [trCode] at hc <;> first | (cases hc; done) | (split at hc <;> cases hc; done) | skip
  rename_i id' c1
  injection hc with h0 h1
  subst h0
  refine wp_block (wp_mono (h c1 h1 a w hr) ?_)
  rintro e a' w' ⟨st', g1, g2⟩
  cases e with
  | exit i =>
    simp only [blockQ] at g2
    simp only [Exit.inBlock]
    split at g2
    · rename_i hi; rw [if_pos hi]; exact ⟨st', g1, g2⟩
    · rename_i hi; rw [if_neg hi]; exact ⟨st', g1, g2⟩
  | normal => exact ⟨st', g1, g2⟩
  | goto l => exact ⟨st', g1, g2⟩
  | ret => exact ⟨st', g1, g2⟩
  | panic ch => exact ⟨st', g1, g2⟩
  | outgrown => exact ⟨st', g1, g2⟩
theorem awp_exit {id : Nat} (h : Q (.exit id) st) : AWp P E (.exit id) st Q := by
  intro code hc a w hr
  cases code <;> simp only [trCode] at hc <;> first | (cases hc; done) | (split at hc <;> cases hc; done) | skip
  injection hc with h0
  subst h0
  exact wp_exit ⟨st, hr, h⟩
theorem awp_ret (h : Q .ret st) : AWp P E .ret st Q := by
  intro code hc a w hr
  cases code <;> simp only [trCode] at hc <;> first | (cases hc; done) | (split at hc <;> cases hc; done) | skip
  exact wp_ret ⟨st, hr, h⟩
theorem rel_weaken {st st' : St} {a : Act} {w : World} (h : Rel E st a w) (hs : leS st.s st'.s) (hh : leH st.h st'.h) : Rel E st' a w := by
  obtain ⟨ρ, h⟩ := h
  exact ⟨ρ, h.weaken hs hh⟩
theorem awp_weaken {c : AC} (st' : St) (hs : leS st.s st'.s) (hh : leH st.h st'.h) (h : AWp P E c st' Q) : AWp P E c st Q :=
  fun code hc a w hr => h code hc a w (rel_weaken hr hs hh)
theorem awp_freeze {c : AC} (id : Nat) (h : AWp P E c (freeze st id) Q) : AWp P E c st Q :=
  fun code hc a w hr => h code hc a w (by obtain ⟨ρ, hr⟩ := hr; exact ⟨ρ, hr.freeze id⟩)
/-- a loop: the states that come round, with a number that falls -/
theorem awp_loop {x : AC} (I : Nat → St → Prop) (n : Nat) (h0 : I n st)
    (round : ∀ n st, I n st → AWp P E x st (thenQ (fun st' => ∃ m, m < n ∧ I m st') Q)) : AWp P E (.loop x) st Q := by
  intro code hc a w hr
  cases code <;> simp only [trCode] at hc <;> first | (cases hc; done) | (split at hc <;> cases hc; done) | skip
  rename_i c1
  injection hc with h1
  refine wp_loop_ghost (fun n a w => ∃ st, Rel E st a w ∧ I n st) n ⟨st, hr, h0⟩ ?_
  rintro n a w ⟨st', g1, g2⟩
  refine wp_mono (round n st' g2 c1 h1 a w g1) ?_
  rintro e a' w' ⟨st2, q1, q2⟩
  cases e with
  | normal =>
    obtain ⟨m, hm, q2⟩ := q2
    exact ⟨m, hm, st2, q1, q2⟩
  | exit i => exact ⟨st2, q1, q2⟩
  | goto l => exact ⟨st2, q1, q2⟩
  | ret => exact ⟨st2, q1, q2⟩
  | panic ch => exact ⟨st2, q1, q2⟩
  | outgrown => exact ⟨st2, q1, q2⟩
end

/- CONTRACTS -/
abbrev HP := List (Nat × Win)
/-- from every world in which the windows h and the arguments lie, the call returns; behind it the windows and the result are as Post says, and nothing else has turned -/
def Spec (P : Program) (f : Nat) (h : HP) (args : List AV) (Post : HP → AV → List AV → Prop) : Prop :=
  ∀ (X0 : Nat → Prop) (ρ : Loc) (w : World) (vs : Array Value), HRel X0 ρ h w → (∀ b, X0 b → b < w.heap.size) → vs.size = args.length →
    (∀ (j : Nat) v x, vs[j]? = some v → args[j]? = some x → RV (XX X0 ρ h) w ρ v x) →
    Calls P f vs w fun e w' => ∃ v h' r ρ' as, e = .returned v ∧ Post h' r as ∧ HRel X0 ρ' h' w' ∧ RV (XX X0 ρ' h') w' ρ' v r ∧
      as.length = args.length ∧ (∀ (j : Nat) v x, vs[j]? = some v → as[j]? = some x → RV (XX X0 ρ' h') w' ρ' v x) ∧
      w'.os = w.os ∧ w'.tape = w.tape ∧ w'.output = w.output ∧ w.heap.size ≤ w'.heap.size ∧ (∀ b, b < w.heap.size → ¬ OwnB ρ h b → w'.heap[b]? = w.heap[b]?) ∧
      (∀ b, OwnB ρ' h' b → w.heap.size ≤ b ∨ OwnB ρ h b)
/-- the result variables of a function, on states -/
def resAV (st : St) : List ResultVar → Option (List AV)
  | [] => some []
  | .tmp t :: r => (resAV st r).map fun l => ev st (trE (.tmp t)) :: l
  | .cell _ _ :: _ => none
def resOf (st : St) (rs : List ResultVar) : Option AV :=
  match resAV st rs with
  | some [x] => some x
  | some l => some (.tup l)
  | none => none
def numbered : Nat → List AV → List (Nat × AV)
  | _, [] => []
  | k, x :: r => (k, x) :: numbered (k + 1) r
/-- the arguments, read again -/
def argsAgain (st : St) : Nat → Nat → List AV
  | _, 0 => []
  | k, n + 1 => (sget st.s (2000000 + k)).getD .undef :: argsAgain st (k + 1) n
def postQ (rs : List ResultVar) (n : Nat) (Post : HP → AV → List AV → Prop) : Exit → St → Prop
  | .normal, st | .ret, st => ∃ r, resOf st rs = some r ∧ Post st.h r (argsAgain st 0 n)
  | _, _ => False
theorem argsAgain_length (st : St) : ∀ n k, (argsAgain st k n).length = n
  | 0, _ => rfl
  | n + 1, k => by simp [argsAgain, argsAgain_length st n]
theorem argsAgain_get (st : St) : ∀ n k j x, (argsAgain st k n)[j]? = some x → x = (sget st.s (2000000 + (k + j))).getD .undef
  | 0, _, j, x, h => by simp [argsAgain] at h
  | n + 1, k, 0, x, h => by simp [argsAgain] at h; exact h.symm
  | n + 1, k, j + 1, x, h => by
    have := argsAgain_get st n (k + 1) j x (by simpa [argsAgain] using h)
    rw [this, show k + 1 + j = k + (j + 1) by omega]
theorem sget_numbered : ∀ (l : List AV) (k j : Nat) (x : AV), sget (numbered k l) j = some x → k ≤ j ∧ l[j - k]? = some x
  | [], k, j, x, h => by simp [numbered, sget] at h
  | y :: r, k, j, x, h => by
    simp only [numbered, sget] at h
    split at h
    · rename_i e; subst e
      obtain rfl := Option.some.inj h
      exact ⟨Nat.le_refl _, by simp⟩
    · rename_i hne
      obtain ⟨h1, h2⟩ := sget_numbered r (k + 1) j x h
      refine ⟨by omega, ?_⟩
      rw [show j - k = (j - (k + 1)) + 1 by omega]
      simpa using h2
def resV (tmps : Array Value) (x : ResultVar) : Sem Value :=
  match x with
  | .tmp t => pure (tmps.getD t undef)
  | .cell b t => do loadVar t (← asAddr (tmps.getD b undef))
theorem results_eq (fn : Func) (tmps : Array Value) : results fn tmps = (do
    let vs ← fn.results.mapM (resV tmps)
    pure (if h : vs.size = 1 then vs[0] else .tuple vs)) := rfl
theorem resAV_sound {P : Program} {E : Env} {ρ : Loc} {st : St} {a : Act} {w : World} (h : RelAt E ρ st a w) : ∀ (rs : List ResultVar) (l : List AV), resAV st rs = some l →
    ∃ vs : List Value, (rs.mapM (resV a.tmps)).run P w = .ok vs w ∧ vs.length = l.length ∧ ∀ (j : Nat) v x, vs[j]? = some v → l[j]? = some x → RV (XX E.X0 ρ st.h) w ρ v x
  | [], l, hl => by
    obtain rfl := Option.some.inj hl
    exact ⟨[], by simp, rfl, fun j v x h1 _ => by simp at h1⟩
  | .tmp t :: r, l, hl => by
    simp only [resAV] at hl
    obtain ⟨l', h1, rfl⟩ := Option.map_eq_some_iff.1 hl
    obtain ⟨vs, h2, h3, h4⟩ := resAV_sound (P := P) h r l' h1
    refine ⟨a.eval (.tmp t) :: vs, ?_, by simp [h3], fun j v x e1 e2 => ?_⟩
    · have e : resV a.tmps (.tmp t) = pure (a.eval (.tmp t)) := rfl
      rw [List.mapM_cons, e]
      simp [h2]
    · cases j with
      | zero =>
        simp only [List.getElem?_cons_zero, Option.some.injEq] at e1 e2
        subst e1; subst e2
        exact evalRV h (.tmp t)
      | succ j => exact h4 j v x (by simpa using e1) (by simpa using e2)
  | .cell _ _ :: _, l, hl => by simp [resAV] at hl
theorem resOf_sound {P : Program} {E : Env} {ρ : Loc} {st : St} {a : Act} {w : World} (h : RelAt E ρ st a w) {fn : Func} {r : AV} (hr : resOf st fn.results.toList = some r) :
    ∃ v, (results fn a.tmps).run P w = .ok v w ∧ RV (XX E.X0 ρ st.h) w ρ v r := by
  unfold resOf at hr
  have key : ∀ l, resAV st fn.results.toList = some l → ∃ vs : List Value, (results fn a.tmps).run P w = .ok (if hh : vs.length = 1 then vs[0] else .tuple vs.toArray) w ∧ vs.length = l.length ∧
      ∀ (j : Nat) v x, vs[j]? = some v → l[j]? = some x → RV (XX E.X0 ρ st.h) w ρ v x := by
    intro l hl
    obtain ⟨vs, h1, h2, h3⟩ := resAV_sound (P := P) h _ l hl
    refine ⟨vs, ?_, h2, h3⟩
    rw [results_eq, Array.mapM_eq_mapM_toList]
    simp only [Sem.run_bind, Sem.run_map, h1, Result.andThen_ok, Sem.run_pure]
    simp
  split at hr
  · rename_i x hx
    obtain rfl := Option.some.inj hr
    obtain ⟨vs, h1, h2, h3⟩ := key _ hx
    have h2' : vs.length = 1 := by simpa using h2
    rw [dif_pos h2'] at h1
    exact ⟨_, h1, h3 0 _ _ (List.getElem?_eq_getElem _) rfl⟩
  · rename_i l hne hl
    obtain rfl := Option.some.inj hr
    obtain ⟨vs, h1, h2, h3⟩ := key _ hl
    have h2' : ¬ vs.length = 1 := by
      intro e
      rw [h2] at e
      obtain ⟨x, rfl⟩ := List.length_eq_one_iff.1 e
      exact hne x rfl
    rw [dif_neg h2'] at h1
    exact ⟨_, h1, .tup _ _ _ (by simpa using h2) (fun j v x e1 e2 => h3 j v x (by simpa using e1) e2)⟩
  · cases hr
theorem sget_append (l r : List (Nat × AV)) (k : Nat) : sget (l ++ r) k = (sget l k).or (sget r k) := by
  induction l with
  | nil => simp [sget]
  | cons x l ih =>
    obtain ⟨j, v⟩ := x
    simp only [List.cons_append, sget, ih]
    split <;> simp
def startS (args : List AV) : List (Nat × AV) := numbered 0 args ++ numbered 2000000 args
/-- a function keeps its contract, if its code does -/
theorem spec_of {P : Program} {f : Nat} {fn : Func} {body : Code} {h : HP} {args : List AV} {Post : HP → AV → List AV → Prop} {c : AC} (hf : P.funcs[f]? = some fn) (hb : fn.body = some body) {B : Nat} (hc : trCode P fn.ntmps B body = c)
    (hN : fn.ntmps ≤ 1000000) (ha : args.length ≤ fn.ntmps) (hp : ∀ E : Env, E.N = fn.ntmps → E.B = B → AWp P E c ⟨startS args, h⟩ (postQ fn.results.toList args.length Post)) : Spec P f h args Post := by
  intro X0 ρ w vs hh hX hvs hrv
  let E : Env := ⟨w, OwnB ρ h, X0, fn.ntmps, B, fun k => vs.getD (k - 2000000) undef⟩
  refine calls_of_wp hf hb (wp_mono (hp E rfl rfl body hc _ w ⟨ρ, ?_⟩) ?_)
  · refine ⟨rfl, by simp [E]; omega, fun k av hk => ?_, hh, fun id W L b h1 h2 h3 => .inr ⟨id, W, L, h1, h2, h3⟩, ⟨rfl, rfl, rfl, Nat.le_refl _, fun _ _ _ => rfl⟩, hX⟩
    simp only [startS, sget_append] at hk
    cases h0 : sget (numbered 0 args) k with
    | some av0 =>
      rw [h0] at hk
      obtain rfl := Option.some.inj hk
      obtain ⟨_, h2⟩ := sget_numbered args 0 k _ h0
      have hlt : k < args.length := (List.getElem?_eq_some_iff.1 h2).1
      have hlt2 : k < E.N := by simp only [E]; omega
      refine ⟨.inl hlt2, ?_⟩
      have hv : vs[k]? = some (vs[k]'(by omega)) := Array.getElem?_eq_getElem _
      unfold sval
      rw [if_pos hlt2, Array.getD_eq_getD_getElem?, Array.getElem?_append_left (by omega), hv]
      exact hrv k _ _ hv h2
    | none =>
      rw [h0] at hk
      obtain ⟨h1, h2⟩ := sget_numbered args 2000000 k av hk
      have hlt : k - 2000000 < args.length := (List.getElem?_eq_some_iff.1 h2).1
      refine ⟨.inr h1, ?_⟩
      have hv : vs[k - 2000000]? = some (vs[k - 2000000]'(by omega)) := Array.getElem?_eq_getElem _
      unfold sval
      rw [if_neg (by simp only [E]; omega)]
      simp only [E, Array.getD_eq_getD_getElem?, hv]
      exact hrv _ _ av hv h2
  · rintro e a' w' ⟨st', ⟨ρ', g⟩, q⟩
    have fin : ∀ r, resOf st' fn.results.toList = some r → Post st'.h r (argsAgain st' 0 args.length) → bodyPost P fn (fun e w' => ∃ v h' r ρ' as, e = .returned v ∧ Post h' r as ∧ HRel X0 ρ' h' w' ∧ RV (XX X0 ρ' h') w' ρ' v r ∧
      as.length = args.length ∧ (∀ (j : Nat) v x, vs[j]? = some v → as[j]? = some x → RV (XX X0 ρ' h') w' ρ' v x) ∧
      w'.os = w.os ∧ w'.tape = w.tape ∧ w'.output = w.output ∧ w.heap.size ≤ w'.heap.size ∧ (∀ b, b < w.heap.size → ¬ OwnB ρ h b → w'.heap[b]? = w.heap[b]?) ∧
      (∀ b, OwnB ρ' h' b → w.heap.size ≤ b ∨ OwnB ρ h b)) .ret a' w' := by
      intro r hr hP
      obtain ⟨v, g1, g2⟩ := resOf_sound (P := P) g hr
      refine ⟨g.defers, v, g1, v, st'.h, r, ρ', _, rfl, hP, g.heap, g2, argsAgain_length _ _ _, fun j v x e1 e2 => ?_, g.frm.os, g.frm.tape, g.frm.output, g.frm.size, g.frm.block, fun b ⟨id, W, L, h1, h2, h3⟩ => g.base id W L b h1 h2 h3⟩
      have := argsAgain_get st' _ _ j x e2
      rw [Nat.zero_add] at this
      cases hs : sget st'.s (2000000 + j) with
      | none => rw [hs] at this; subst this; exact .undef _ _
      | some av =>
        rw [hs] at this
        obtain rfl : x = av := this
        have hr2 := (g.slots _ _ hs).2
        unfold sval at hr2
        rw [if_neg (by simp only [E]; omega)] at hr2
        simp only [E, Nat.add_sub_cancel_left, Array.getD_eq_getD_getElem?, e1] at hr2
        exact hr2
    cases e with
    | normal => obtain ⟨r, hr, hP⟩ := q; exact fin r hr hP
    | ret => obtain ⟨r, hr, hP⟩ := q; exact fin r hr hP
    | exit id => exact q.elim
    | goto l => exact q.elim
    | panic ch => exact q.elim
    | outgrown => exact q.elim
end Go.Proofs.YtkeleoneecofhaaDoor.Eng
