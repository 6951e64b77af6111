/- The engine, part X: contracts with companions: values that the call does not take, and of which it is told anew what they are behind it. -/
import Derived.Test.YtgkcbhdpenmogaaDoorEngT
set_option linter.all false
namespace Go.Proofs.YtgkcbhdpenmogaaDoor.Eng
/-- a contract; the call takes the first n values alone -/
def SpecG (P : Program) (f n : Nat) (h : HP) (args : List AV) (Post : HP → AV → List AV → Prop) : Prop :=
  ∀ (X0 : Nat → Prop) (ρ : Loc) (w : World) (vs : Array Value), HRel X0 ρ h w → AmbO (OwnB ρ h) w → (∀ b, X0 b → b < w.heap.size) → vs.size = args.length →
    (∀ (j : Nat) v x, vs[j]? = some v → args[j]? = some x → RV (XX X0 ρ h) w ρ v x) →
    Calls P f (vs.extract 0 n) w fun e w' => ∃ v h' r ρ' as, e = .returned v ∧ Post h' r as ∧ HRel X0 ρ' h' w' ∧ RV (XX X0 ρ' h') w' ρ' v r ∧
      as.length = args.length ∧ (∀ (j : Nat) v x, vs[j]? = some v → as[j]? = some x → RV (XX X0 ρ' h') w' ρ' v x) ∧
      w'.os = w.os ∧ w'.tape = w.tape ∧ w'.output = w.output ∧ w.heap.size ≤ w'.heap.size ∧ (∀ b, b < w.heap.size → ¬ OwnB ρ h b → w'.heap[b]? = w.heap[b]?) ∧
      (∀ b, OwnB ρ' h' b → w.heap.size ≤ b ∨ OwnB ρ h b)
def startG (n : Nat) (args : List AV) : List (Nat × AV) := numbered 0 (args.take n) ++ numbered 2000000 args
/-- a function keeps its contract, if its code does -/
theorem specG_of {P : Program} {f : Nat} {fn : Func} {body : Code} {h : HP} {args : List AV} {Post : HP → AV → List AV → Prop} {c : AC} (hf : P.funcs[f]? = some fn) (hb : fn.body = some body) {B n : Nat} (hc : trCode P fn.ntmps B body = c)
    (hN : fn.ntmps ≤ 1000000) (hn : n ≤ args.length) (ha : n ≤ fn.ntmps) (hp : ∀ E : Env, E.N = fn.ntmps → E.B = B → E.rd = none → AWp P E c ⟨startG n args, h⟩ (postQ (fn.results.toList.map (trRes P)) args.length Post)) : SpecG P f n h args Post := by
  intro X0 ρ w vs hh hA hX hvs hrv
  let E : Env := ⟨w, OwnB ρ h, X0, fn.ntmps, B, fun k => vs.getD (k - 2000000) undef, none, w.heap.size, Nat.le_refl _, []⟩
  refine (callsIn_wide (n := 0)).1 (callsIn_of_wp_marks hf hb trivial (wpIn_mono (hp E rfl rfl rfl 0 body hc _ w ⟨ρ, ?_⟩) ?_))
  · have hex : ∀ k, k < n → (vs.extract 0 n)[k]? = vs[k]? := fun k hk => by
      rw [Array.getElem?_extract]; simp; omega
    refine ⟨DfOK.nil _ _, by simp [E]; omega, fun k av hk => ?_, hh, fun id W L b h1 h2 h3 => .inr ⟨id, W, L, h1, h2, h3⟩, ⟨rfl, rfl, rfl, Nat.le_refl _, fun _ _ _ => rfl, hA⟩, hX⟩
    simp only [startG, sget_append] at hk
    cases h0 : sget (numbered 0 (args.take n)) k with
    | some av0 =>
      rw [h0] at hk
      obtain rfl := Option.some.inj hk
      obtain ⟨_, h2⟩ := sget_numbered (args.take n) 0 k _ h0
      have hlt : k < n := by
        have := (List.getElem?_eq_some_iff.1 h2).1
        simp at this; omega
      have h2 : args[k]? = some av0 := by
        rw [Nat.sub_zero, List.getElem?_take_of_lt hlt] at h2; exact h2
      have hlt2 : k < E.N := by simp only [E]; omega
      refine ⟨.inl hlt2, ?_⟩
      have hv : vs[k]? = some (vs[k]'(by omega)) := Array.getElem?_eq_getElem _
      unfold sval
      rw [if_pos hlt2, Array.getD_eq_getD_getElem?, Array.getElem?_append_left (by simp; omega), hex k hlt, hv]
      exact hrv k _ _ hv h2
    | none =>
      rw [h0] at hk
      obtain ⟨h1, h2⟩ := sget_numbered args 2000000 k av hk
      have hlt : k - 2000000 < args.length := (List.getElem?_eq_some_iff.1 h2).1
      refine ⟨.inr h1, ?_⟩
      have hv : vs[k - 2000000]? = some (vs[k - 2000000]'(by omega)) := Array.getElem?_eq_getElem _
      unfold sval
      rw [if_neg (by simp only [E]; omega)]
      simp only [E, Array.getD_eq_getD_getElem?, hv]
      exact hrv _ _ av hv h2
  · rintro e a' w' ⟨st', ⟨ρ', g0⟩, q⟩
    have fin : ∀ r, resOf st' (fn.results.toList.map (trRes P)) = some r → Post st'.h r (argsAgain st' 0 args.length) → bodyPostM Fence.wide 0 P fn (fun e w' => ∃ v h' r ρ' as, e = .returned v ∧ Post h' r as ∧ HRel X0 ρ' h' w' ∧ RV (XX X0 ρ' h') w' ρ' v r ∧
      as.length = args.length ∧ (∀ (j : Nat) v x, vs[j]? = some v → as[j]? = some x → RV (XX X0 ρ' h') w' ρ' v x) ∧
      w'.os = w.os ∧ w'.tape = w.tape ∧ w'.output = w.output ∧ w.heap.size ≤ w'.heap.size ∧ (∀ b, b < w.heap.size → ¬ OwnB ρ h b → w'.heap[b]? = w.heap[b]?) ∧
      (∀ b, OwnB ρ' h' b → w.heap.size ≤ b ∨ OwnB ρ h b)) .ret a' w' := by
      intro r hr hP
      obtain ⟨⟨Ds, hDs⟩, _⟩ := g0.defers
      show LeavesInM Fence.wide 0 P fn a'.tmps _ a'.defers .returning w'
      rw [hDs]
      refine leaves_marks (E := E) (ρ := ρ') (st := st') (a := a') (by simp) (fun w' g => ?_) rfl rfl Ds w' (by rw [← hDs]; exact g0)
      obtain ⟨v, g1, g2⟩ := resOf_sound (P := P) g hr
      refine ⟨v, g1, v, st'.h, r, ρ', _, rfl, hP, g.heap, g2, argsAgain_length _ _ _, fun j v x e1 e2 => ?_, g.frm.os, g.frm.tape, g.frm.output, g.frm.size, g.frm.block, fun b ⟨id, W, L, h1, h2, h3⟩ => g.base id W L b h1 h2 h3⟩
      have := argsAgain_get st' _ _ j x e2
      rw [Nat.zero_add] at this
      cases hs : sget st'.s (2000000 + j) with
      | none => rw [hs] at this; subst this; exact .undef _ _
      | some av =>
        rw [hs] at this
        obtain rfl : x = av := this
        have hr2 := (g.slots _ _ hs).2
        unfold sval at hr2
        rw [if_neg (by simp only [E]; omega)] at hr2
        simp only [E, Nat.add_sub_cancel_left, Array.getD_eq_getD_getElem?, e1] at hr2
        exact hr2
    cases e with
    | normal => obtain ⟨r, hr, hP⟩ := q; exact fin r hr hP
    | ret => obtain ⟨r, hr, hP⟩ := q; exact fin r hr hP
    | exit id => exact q.elim
    | goto l => exact q.elim
    | panic ch => exact q.elim
    | outgrown => exact q.elim
theorem specG_wk {P : Program} {f n : Nat} {h : HP} {args : List AV} {Post : HP → AV → List AV → Prop}
    (hs : SpecG P f n h args (fun h' r as => ∃ h2 r2 as2, as2.length = as.length ∧ Wk ⟨(0, r) :: numbered 1 as, h'⟩ ⟨(0, r2) :: numbered 1 as2, h2⟩ ∧ Post h2 r2 as2)) : SpecG P f n h args Post := by
  intro X0 ρ w vs h1 hA h2 h3 h4
  refine (hs X0 ρ w vs h1 hA h2 h3 h4).mono ?_
  rintro e w' ⟨v, h', r, ρ', as, rfl, ⟨h2', r2, as2, hlen, hwk, hP⟩, g3, g4, g5, g6, g7, g8, g9, g10, g11, g12⟩
  let E : Env := ⟨w', fun b => w.heap.size ≤ b ∨ OwnB ρ h b, X0, vs.size + 1, 0, fun _ => undef, none, 0, Nat.zero_le _, []⟩
  let a : Act := { tmps := #[v] ++ vs, defers := [] }
  have hsv : ∀ j, j < vs.size → sval E a (1 + j) = vs.getD j undef := by
    intro j hj
    unfold sval
    rw [if_pos (show 1 + j < vs.size + 1 by omega)]
    simp only [a, Array.getD_eq_getD_getElem?]
    rw [Array.getElem?_append_right (by simp)]
    simp
  have hr : RelAt E ρ' ⟨(0, r) :: numbered 1 as, h'⟩ a w' := by
    refine ⟨DfOK.nil _ _, by simp [a, E]; omega, fun k av hk => ?_, g3, fun id W L b e1 e2 e3 => .inr (g12 b ⟨id, W, L, e1, e2, e3⟩), ⟨rfl, rfl, rfl, Nat.le_refl _, fun _ _ _ => rfl, hA.1.stays (fun b _ _ _ hb _ => g11 b (hA.1.lt hb) (hA.2 b hb)), fun b hb hx => hx.elim (fun g => by have := hA.1.lt hb; omega) (hA.2 b hb)⟩, fun b hb => Nat.lt_of_lt_of_le (h2 b hb) g10⟩
    simp only [sget] at hk
    split at hk
    · rename_i e; subst e
      obtain rfl := Option.some.inj hk
      refine ⟨.inl (show 0 < vs.size + 1 by omega), ?_⟩
      have : sval E a 0 = v := by
        unfold sval
        rw [if_pos (show 0 < vs.size + 1 by omega)]
        simp only [a]; exact getD_first v vs
      rw [this]; exact g4
    · obtain ⟨e1, e2⟩ := sget_numbered as 1 k av hk
      have hlt := (List.getElem?_eq_some_iff.1 e2).1
      obtain ⟨j, rfl⟩ : ∃ j, k = 1 + j := ⟨k - 1, by omega⟩
      have hj : j < vs.size := by omega
      refine ⟨.inl (show 1 + j < vs.size + 1 by omega), ?_⟩
      rw [hsv j hj]
      have hv : vs[j]? = some (vs.getD j undef) := by rw [Array.getD_eq_getD_getElem?, Array.getElem?_eq_getElem hj]; rfl
      exact g6 j _ av hv (by rw [Nat.add_sub_cancel_left] at e2; exact e2)
  obtain ⟨ρ2, hr2⟩ := wk_rel hwk hr
  refine ⟨v, h2', r2, ρ2, as2, rfl, hP, hr2.heap, ?_, by omega, fun j u x e1 e2 => ?_, g7, g8, g9, g10, g11, fun b ⟨id, W, L, e1, e2, e3⟩ => ?_⟩
  · have := (hr2.slots 0 r2 (by simp [sget])).2
    have e : sval E a 0 = v := by
      unfold sval
      rw [if_pos (show 0 < vs.size + 1 by omega)]
      simp only [a]; exact getD_first v vs
    rw [e] at this; exact this
  · have hj := (Array.getElem?_eq_some_iff.1 e1).1
    have hs2 : sget ((0, r2) :: numbered 1 as2) (1 + j) = some x := by
      simp only [sget]
      rw [if_neg (by omega)]
      exact sget_numbered_get as2 1 j x e2
    have := (hr2.slots (1 + j) x hs2).2
    rw [hsv j hj, Array.getD_eq_getD_getElem?, e1] at this
    exact this
  · rcases hr2.base id W L b e1 e2 e3 with g | g
    · exact .inl (Nat.le_trans g10 g)
    · exact g
/-- the slots that read from no window -/
def fltB (b : Bool) (k : Nat) (v : AV) (r : List (Nat × AV)) : List (Nat × AV) :=
  match b with
  | true => (k, v) :: r
  | false => r
def fltO (o : Option AV) (k : Nat) (r : List (Nat × AV)) : List (Nat × AV) :=
  match o with
  | some v => fltB (flA v) k v r
  | none => r
def fltS (s0 : List (Nat × AV)) : List (Nat × AV) → List (Nat × AV)
  | [] => []
  | (k, _) :: r => fltO (sget s0 k) k (fltS s0 r)
def getL (s : List (Nat × AV)) : List Nat → List AV
  | [] => []
  | k :: r => (sget s k).getD .undef :: getL s r
def zipS : List Nat → List AV → List (Nat × AV)
  | k :: ks, v :: vs => (k, v) :: zipS ks vs
  | _, _ => []
theorem getL_len (s : List (Nat × AV)) : ∀ ks, (getL s ks).length = ks.length
  | [] => rfl
  | k :: r => by simp [getL, getL_len s r]
theorem getL_get (s : List (Nat × AV)) : ∀ (ks : List Nat) (j k : Nat), ks[j]? = some k → (getL s ks)[j]? = some ((sget s k).getD .undef)
  | [], j, k, h => by simp at h
  | q :: r, 0, k, h => by simp at h; subst h; rfl
  | q :: r, j + 1, k, h => by simpa [getL] using getL_get s r j k (by simpa using h)
theorem zipS_mem : ∀ {ks : List Nat} {vs : List AV} {k : Nat} {v : AV}, sget (zipS ks vs) k = some v → ∃ j : Nat, ks[j]? = some k ∧ vs[j]? = some v
  | [], vs, k, v, h => by simp [zipS, sget] at h
  | q :: ks, [], k, v, h => by simp [zipS, sget] at h
  | q :: ks, u :: vs, k, v, h => by
    simp only [zipS, sget] at h
    split at h
    · rename_i e
      obtain rfl := Option.some.inj h
      exact ⟨0, by rw [e]; rfl, rfl⟩
    · obtain ⟨j, h1, h2⟩ := zipS_mem h
      exact ⟨j + 1, by simpa using h1, by simpa using h2⟩
theorem fltS_mem {s0 : List (Nat × AV)} : ∀ {s : List (Nat × AV)} {k : Nat} {v : AV}, sget (fltS s0 s) k = some v → sget s0 k = some v ∧ flA v = true
  | [], k, v, h => by simp [fltS, sget] at h
  | (q, u) :: s, k, v, h => by
    unfold fltS at h
    cases hq : sget s0 q with
    | none => rw [hq] at h; exact fltS_mem (s := s) h
    | some x =>
      rw [hq] at h
      simp only [fltO] at h
      cases hu : flA x with
      | true =>
        rw [hu] at h
        simp only [fltB, sget] at h
        split at h
        · rename_i e
          subst e
          obtain rfl := Option.some.inj h
          exact ⟨hq, hu⟩
        · exact fltS_mem h
      | false =>
        rw [hu] at h
        exact fltS_mem (s := s) h
/-- what stands behind a call to which all windows are lent: the slots ks anew, and those that read from no window -/
def allS (st : St) (ks : List Nat) (h' : HP) (gs : List AV) : St := ⟨zipS ks gs ++ fltS st.s st.s, h'⟩
/-- a call to which all windows are lent; the slots ks go beside its arguments -/
theorem acall_all {P : Program} {st : St} {f : Nat} {args : List AE} {K : AV → St → Prop} {Post : HP → AV → List AV → Prop} (ks : List Nat) (hks : ks.all (fun k => (sget st.s k).isSome) = true)
    (hs : SpecG P f args.length st.h (args.map (ev st) ++ getL st.s ks) Post)
    (hK : ∀ h' r as, Post h' r as → K r (allS st ks h' (as.drop args.length))) : acall P false st f args K := by
  intro E ρ a w vs h hvs hrv
  let us : Array Value := (ks.map (sval E a)).toArray
  have hus : us.size = ks.length := by simp [us]
  have hex : (vs ++ us).extract 0 args.length = vs := by
    rw [← hvs]; simp
  have := hs E.X0 ρ w (vs ++ us) h.heap h.amb h.x0 (by simp [hvs, hus, getL_len]) (fun j v x e1 e2 => ?_)
  · rw [hex] at this
    refine this.mono ?_
    rintro e w' ⟨v, h', r, ρ', as, rfl, hP, hH, hr, hal, has, q1, q2, q3, q4, q5, q6⟩
    refine ⟨v, ρ', allS st ks h' (as.drop args.length), r, rfl, ⟨h.defers.turn (fun b hb => q5 b (Array.getElem?_eq_some_iff.1 hb).1 (fun hx => own_undef h.heap hb hx)), h.size, fun k av hk => ?_, hH, fun id W L b e1 e2 e3 => ?_, ?_, fun b hb => Nat.lt_of_lt_of_le (h.x0 b hb) q4⟩, hr, hK h' r as hP, fun hq => by cases hq⟩
    · simp only [allS, sget_append] at hk
      cases hz : sget (zipS ks (as.drop args.length)) k with
      | some av1 =>
        rw [hz] at hk
        obtain rfl : av1 = av := Option.some.inj hk
        obtain ⟨j, g1, g2⟩ := zipS_mem hz
        have hk1 := List.all_eq_true.1 hks k (List.mem_of_getElem? g1)
        obtain ⟨av0, hav0⟩ := Option.isSome_iff_exists.1 hk1
        refine ⟨(h.slots k av0 hav0).1, ?_⟩
        rw [List.getElem?_drop] at g2
        refine has (args.length + j) (sval E a k) av1 ?_ g2
        rw [Array.getElem?_append_right (by omega), hvs, Nat.add_sub_cancel_left]
        simp [us, g1]
      | none =>
        rw [hz, Option.none_or] at hk
        obtain ⟨g1, g2⟩ := fltS_mem hk
        exact ⟨(h.slots k av g1).1, (h.slots k av g1).2.flA g2⟩
    · rcases q6 b ⟨id, W, L, e1, e2, e3⟩ with g | ⟨id', W', L', f1, f2, f3⟩
      · exact .inl (Nat.le_trans h.frm.size g)
      · exact h.base id' W' L' b f1 f2 f3
    · refine ⟨q1.trans h.frm.os, q2.trans h.frm.tape, q3.trans h.frm.output, Nat.le_trans h.frm.size q4, fun b hb hF => (q5 b (Nat.lt_of_lt_of_le hb h.frm.size) ?_).trans (h.frm.block b hb hF), h.frm.amb⟩
      rintro ⟨id', W', L', f1, f2, f3⟩
      rcases h.base id' W' L' b f1 f2 f3 with g | g
      · omega
      · exact hF g
  · by_cases hj : j < args.length
    · rw [Array.getElem?_append_left (by omega)] at e1
      rw [List.getElem?_append_left (by simpa using hj), List.getElem?_map] at e2
      obtain ⟨y, g1, rfl⟩ := Option.map_eq_some_iff.1 e2
      exact (hrv j v y e1 g1).1
    · rw [Array.getElem?_append_right (by omega), hvs] at e1
      rw [List.getElem?_append_right (by simpa using hj), List.length_map] at e2
      simp only [us, List.getElem?_toArray, List.getElem?_map] at e1
      obtain ⟨k, g1, rfl⟩ := Option.map_eq_some_iff.1 e1
      rw [getL_get _ _ _ _ g1] at e2
      obtain rfl := Option.some.inj e2
      obtain ⟨av0, hav0⟩ := Option.isSome_iff_exists.1 (List.all_eq_true.1 hks k (List.mem_of_getElem? g1))
      rw [hav0]
      exact (h.slots k av0 hav0).2
section
variable {P : Program} {st : St} {f n : Nat} {args : List AE} {as bs : List AV} {d : Option Nat} {r : List ROp} {K : KS} {Post : HP → AV → List AV → Prop}
theorem call_all (ks : List Nat) (hks : ks.all (fun k => (sget st.s k).isSome) = true) (hb : as ++ getL st.s ks = bs) (hn : args.length = n) (hs : SpecG P f n st.h bs Post)
    (h : ∀ h' v as', Post h' v as' → aopsW P r (put (allS st ks h' (as'.drop n)) d v) K) : callW P false st f args as d r K := by
  rintro rfl
  subst hb
  subst hn
  exact acall_all ks hks hs h
end
theorem fltS_nil (s0 : List (Nat × AV)) : fltS s0 [] = [] := (rfl)
theorem fltS_cons (s0 : List (Nat × AV)) (k : Nat) (v : AV) (r : List (Nat × AV)) : fltS s0 ((k, v) :: r) = fltO (sget s0 k) k (fltS s0 r) := (rfl)
theorem fltO_some (v : AV) (k : Nat) (r : List (Nat × AV)) : fltO (some v) k r = fltB (flA v) k v r := (rfl)
theorem fltB_t (v : AV) (k : Nat) (r : List (Nat × AV)) : fltB true k v r = (k, v) :: r := (rfl)
theorem fltB_f (v : AV) (k : Nat) (r : List (Nat × AV)) : fltB false k v r = r := (rfl)
theorem getL_nil (s : List (Nat × AV)) : getL s [] = [] := (rfl)
theorem getL_cons (s : List (Nat × AV)) (k : Nat) (r : List Nat) : getL s (k :: r) = (sget s k).getD .undef :: getL s r := (rfl)
theorem zipS_nil (vs : List AV) : zipS [] vs = [] := (rfl)
theorem zipS_cons (k : Nat) (ks : List Nat) (v : AV) (vs : List AV) : zipS (k :: ks) (v :: vs) = (k, v) :: zipS ks vs := (rfl)
theorem allS_eq (st : St) (ks : List Nat) (h' : HP) (gs : List AV) : allS st ks h' gs = ⟨zipS ks gs ++ fltS st.s st.s, h'⟩ := (rfl)
attribute [go_sem] fltS_nil fltS_cons fltO_some fltB_t fltB_f getL_nil getL_cons zipS_nil zipS_cons allS_eq
end Go.Proofs.YtgkcbhdpenmogaaDoor.Eng
