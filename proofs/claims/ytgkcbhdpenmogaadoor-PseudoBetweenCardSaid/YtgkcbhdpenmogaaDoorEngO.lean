/- The engine, part O: a call that is handed windows, or hands back new ones. -/
import Derived.Test.YtgkcbhdpenmogaaDoorEngJ
set_option linter.all false
namespace Go.Proofs.YtgkcbhdpenmogaaDoor.Eng
def keepL2 : List AV → List AV → List Nat
  | .vptr p f :: xs, .vptr p' f' :: as => if p = p' then if f = f' then p :: keepL2 xs as else keepL2 xs as else keepL2 xs as
  | _ :: xs, _ :: as => keepL2 xs as
  | _, _ => []
def backS (s : List (Nat × AV)) (h' : HP) : List AE → List AV → List (Nat × AV)
  | .t k :: xs, .sl i o n :: as => if (hget h' i).isSome then if (sget s k).isSome then (k, .sl i o n) :: backS s h' xs as else backS s h' xs as else backS s h' xs as
  | _ :: xs, _ :: as => backS s h' xs as
  | _, _ => []
def afterS (st : St) (h : HP) (args : List AE) (h' : HP) (as : List AV) : St :=
  ⟨backS st.s h' args as ++ killSI (namesH h ++ namesH h') (keepL2 (args.map (ev st)) as) st.s, h' ++ dropH (namesH h ++ namesH h') (keepL2 (args.map (ev st)) as) st.h⟩
theorem keepL2_mem : ∀ {xs as : List AV} {p : Nat}, memN p (keepL2 xs as) = true → ∃ (j f : Nat), xs[j]? = some (.vptr p f) ∧ as[j]? = some (.vptr p f)
  | [], as, p, h => by simp [keepL2, memN] at h
  | x :: xs, [], p, h => by cases x <;> simp [keepL2, memN] at h
  | x :: xs, a :: as, p, h => by
    have rest : memN p (keepL2 xs as) = true → ∃ (j f : Nat), (x :: xs)[j]? = some (.vptr p f) ∧ (a :: as)[j]? = some (.vptr p f) := fun h => by
      obtain ⟨j, f, h1, h2⟩ := keepL2_mem h
      exact ⟨j + 1, f, by simpa using h1, by simpa using h2⟩
    unfold keepL2 at h
    split at h
    · rename_i q f xs' q' f' as' e1 e2
      cases e1; cases e2
      split at h
      · split at h
        · rename_i e3 e4
          simp only [memN] at h
          split at h
          · rename_i e5
            exact ⟨0, f, by rw [e5]; rfl, by rw [e5, e3, e4]; rfl⟩
          · exact rest h
        · exact rest h
      · exact rest h
    · rename_i e1 e2
      cases e1; cases e2
      exact rest h
    · rename_i h1 h2
      exact absurd rfl (h2 x xs a as rfl)
theorem backS_mem {s : List (Nat × AV)} {h' : HP} : ∀ {xs : List AE} {as : List AV} {k : Nat} {av : AV}, sget (backS s h' xs as) k = some av →
    ∃ (j i o n : Nat), xs[j]? = some (.t k) ∧ as[j]? = some av ∧ av = .sl i o n ∧ (hget h' i).isSome = true ∧ (sget s k).isSome = true
  | [], as, k, av, h => by simp [backS, sget] at h
  | x :: xs, [], k, av, h => by cases x <;> simp [backS, sget] at h
  | x :: xs, a :: as, k, av, h => by
    have rest : sget (backS s h' xs as) k = some av → ∃ (j i o n : Nat), (x :: xs)[j]? = some (.t k) ∧ (a :: as)[j]? = some av ∧ av = .sl i o n ∧ (hget h' i).isSome = true ∧ (sget s k).isSome = true := fun h => by
      obtain ⟨j, i, o, n, h1, h2, h3⟩ := backS_mem h
      exact ⟨j + 1, i, o, n, by simpa using h1, by simpa using h2, h3⟩
    unfold backS at h
    split at h
    · rename_i k' xs' i o n as' e1 e2
      cases e1; cases e2
      split at h
      · split at h
        · rename_i e3 e4
          simp only [sget] at h
          split at h
          · rename_i e5
            obtain rfl := Option.some.inj h
            exact ⟨0, i, o, n, by rw [e5]; rfl, rfl, rfl, e3, by rw [e5]; exact e4⟩
          · exact rest h
        · exact rest h
      · exact rest h
    · rename_i e1 e2
      cases e1; cases e2
      exact rest h
    · rename_i h1 h2
      exact absurd rfl (h2 x xs a as rfl)
/-- what a callee that is handed the windows h0 must leave alone -/
def outB (E : Env) (ρ : Loc) (st : St) (h0 : HP) : Nat → Prop := fun b => E.X0 b ∨ ∃ id W L, hget st.h id = some W ∧ hget h0 id = none ∧ ρ id = some L ∧ L.b = some b
theorem outB_sub {E : Env} {ρ : Loc} {st : St} {h0 : HP} (hsub : ∀ i W, hget h0 i = some W → hget st.h i = some W) : ∀ b, XX (outB E ρ st h0) ρ h0 b → XX E.X0 ρ st.h b := by
  rintro b ((hb | ⟨id, W, L, g1, g2, g3, g4⟩) | ⟨id, W, L, g1, g2, g3⟩)
  · exact .inl hb
  · exact .inr ⟨id, W, L, g1, g3, g4⟩
  · exact .inr ⟨id, W, L, hsub _ _ g1, g2, g3⟩
theorem XX_all {E : Env} {ρ : Loc} {st : St} {a : Act} {w : World} (h : RelAt E ρ st a w) : ∀ b, XX E.X0 ρ st.h b → b < w.heap.size := by
  intro b hb
  rcases hb with hb | hb
  · exact h.x0 b hb
  · exact XX_lt h hb
theorem win_before {E : Env} {ρ : Loc} {st : St} {a : Act} {w : World} {h0 : HP} (h : RelAt E ρ st a w) (hsub : ∀ i W, hget h0 i = some W → hget st.h i = some W) : HRel (outB E ρ st h0) ρ h0 w := by
  have hx1 := outB_sub (E := E) (ρ := ρ) hsub
  refine ⟨fun id W hW => ?_, fun i j W W' L L' b e1 e2 e3 e4 e5 e6 => h.heap.dist i j W W' L L' b (hsub _ _ e1) (hsub _ _ e2) e3 e4 e5 e6, fun id W L b e1 e2 e3 hx => ?_⟩
  · obtain ⟨L, g1, g2⟩ := h.heap.win id W (hsub _ _ hW)
    exact ⟨L, g1, g2.mono (fun _ _ => rfl) (fun _ _ _ => rfl) (fun b _ hb hx => hb (hx1 b hx)) (fun _ _ h => h)⟩
  · rcases hx with hx | ⟨id', W', L', g1, g2, g3, g4⟩
    · exact h.heap.out id W L b (hsub _ _ e1) e2 e3 hx
    · have := h.heap.dist id id' W W' L L' b (hsub _ _ e1) g1 e2 g3 e3 g4
      subst this
      rw [e1] at g2; cases g2
theorem win_after {E : Env} {ρ ρ' : Loc} {st : St} {a : Act} {w w' : World} {h0 h' : HP} {args : List AE} {vs : Array Value} {v : Value} {r : AV} {as : List AV} (h : RelAt E ρ st a w) (hvs : vs.size = args.length)
    (hrv : ∀ (j : Nat) v x, vs[j]? = some v → args[j]? = some x → RV (XX E.X0 ρ st.h) w ρ v (ev st x) ∧ ∀ k, x = .t k → k < 2000000 ∧ v = a.tmps.getD k undef)
    (hsub : ∀ i W, hget h0 i = some W → hget st.h i = some W) (k1 : inH h' h' = true) (k2 : inT h' r = true)
    (hH : HRel (outB E ρ st h0) ρ' h' w') (hr : RV (XX (outB E ρ st h0) ρ' h') w' ρ' v r) (hal : as.length = args.length)
    (has : ∀ (j : Nat) v x, vs[j]? = some v → as[j]? = some x → RV (XX (outB E ρ st h0) ρ' h') w' ρ' v x)
    (q1 : w'.os = w.os) (q2 : w'.tape = w.tape) (q3 : w'.output = w.output) (q4 : w.heap.size ≤ w'.heap.size) (q5 : ∀ b, b < w.heap.size → ¬ OwnB ρ h0 b → w'.heap[b]? = w.heap[b]?)
    (q6 : ∀ b, OwnB ρ' h' b → w.heap.size ≤ b ∨ OwnB ρ h0 b) :
    ∃ ρ2, RelAt E ρ2 (afterS st h0 args h' as) a w' ∧ RV (XX E.X0 ρ2 (afterS st h0 args h' as).h) w' ρ2 v r := by
  have hx1 := outB_sub (E := E) (ρ := ρ) hsub
  let ids := namesH h0 ++ namesH h'
  let keep := keepL2 (args.map (ev st)) as
  let ρ2 : Loc := fun j => if (hget h' j).isSome then ρ' j else ρ j
  have hin : ∀ i L, (hget h' i).isSome = true → ρ' i = some L → ρ2 i = some L := fun i L g1 g2 => by simp only [ρ2, g1, if_true, g2]
  have hout : ∀ i, memN i ids = false → hget h0 i = none ∧ hget h' i = none := by
    intro i hi
    simp only [ids, memN_append, Bool.or_eq_false_iff, memN_names] at hi
    exact ⟨by cases hh : hget h0 i <;> simp_all, by cases hh : hget h' i <;> simp_all⟩
  have hold : ∀ i L, memN i ids = false → ρ i = some L → ρ2 i = some L := fun i L g1 g2 => by
    simp only [ρ2, (hout i g1).2, Option.isSome_none, Bool.false_eq_true, if_false, g2]
  have hget2 : ∀ id W, hget (h' ++ dropH ids keep st.h) id = some W → hget h' id = some W ∨ (hget h' id = none ∧ hget h0 id = none ∧ memN id ids = false ∧ ∃ W0, hget st.h id = some W0 ∧ W = kWI ids keep W0) := by
    intro id W hW
    rw [hget_append] at hW
    cases hh : hget h' id with
    | some W1 => rw [hh] at hW; exact .inl hW
    | none =>
      rw [hh, Option.none_or, hget_dropH] at hW
      split at hW
      · cases hW
      · rename_i hm
        obtain ⟨W0, g1, g2⟩ := Option.map_eq_some_iff.1 hW
        exact .inr ⟨rfl, (hout id (by simpa using hm)).1, by simpa using hm, W0, g1, g2.symm⟩
  have hX1 : ∀ b, XX E.X0 ρ2 (h' ++ dropH ids keep st.h) b → XX (outB E ρ st h0) ρ' h' b := by
    rintro b (hb | ⟨id, W, L, g1, g2, g3⟩)
    · exact .inl (.inl hb)
    · rcases hget2 id W g1 with g4 | ⟨g4, g5, g6, W0, g7, _⟩
      · simp only [ρ2, g4, Option.isSome_some, if_true] at g2
        exact .inr ⟨id, W, L, g4, g2, g3⟩
      · simp only [ρ2, g4, Option.isSome_none, Bool.false_eq_true, if_false] at g2
        exact .inl (.inr ⟨id, W0, L, g7, g5, g2, g3⟩)
  have hX2 : ∀ b, b < w.heap.size → ¬ XX E.X0 ρ st.h b → ¬ XX E.X0 ρ2 (h' ++ dropH ids keep st.h) b := by
    intro b hb hn hx
    rcases hX1 b hx with g | g
    · exact hn (hx1 b (.inl g))
    · rcases q6 b g with g1 | g1
      · omega
      · exact hn (hx1 b (.inr g1))
  have hw : ∀ b, ¬ XX E.X0 ρ st.h b → b < w.heap.size → w'.heap[b]? = w.heap[b]? := fun b hn hb => q5 b hb (fun g => hn (hx1 b (.inr g)))
  have hkeep : ∀ i L b, memN i keep = true → ρ i = some L → L.b = some b → ∃ L', ρ2 i = some L' ∧ L'.b = some b ∧ L'.o = L.o := by
    intro i L b hm hL hb
    obtain ⟨j, fo, g1, g2⟩ := keepL2_mem hm
    have hj : j < vs.size := by
      have := (List.getElem?_eq_some_iff.1 g1).1
      simp at this; omega
    have hv := Array.getElem?_eq_getElem hj
    rw [List.getElem?_map] at g1
    obtain ⟨y, e1, e2⟩ := Option.map_eq_some_iff.1 g1
    have r1 := (hrv j _ y hv e1).1
    rw [e2] at r1
    have r2 := has j _ _ hv g2
    by_cases hd : (hget h' i).isSome = true
    · generalize vs[j] = vj at r1 r2
      cases r1 with
      | vptr _ _ _ L1 b1 hL1 hb1 =>
        rw [hL] at hL1
        obtain rfl := Option.some.inj hL1
        rw [hb] at hb1
        obtain rfl := Option.some.inj hb1
        generalize hz : (Value.pointer (some ⟨b, L.o + fo, none⟩)) = z at r2
        cases r2 with
        | vptr _ _ _ L2 b2 hL2 hb2 =>
          have hz' : b = b2 ∧ L.o + fo = L2.o + fo := by
            injection hz with hz
            injection hz with hz
            injection hz with hz1 hz2
            exact ⟨hz1, hz2⟩
          exact ⟨L2, hin i L2 hd hL2, by rw [hb2, hz'.1], by omega⟩
    · exact ⟨L, by simp only [ρ2, hd, Bool.false_eq_true, if_false, hL], hb, rfl⟩
  have hun : ∀ id W0 L b, hget st.h id = some W0 → hget h0 id = none → ρ id = some L → L.b = some b → b < w.heap.size ∧ w'.heap[b]? = w.heap[b]? := by
    intro id W0 L b g1 g2 g3 g4
    have hb := XX_lt h ⟨id, W0, L, g1, g3, g4⟩
    refine ⟨hb, q5 b hb ?_⟩
    rintro ⟨id', W', L', e1, e2, e3⟩
    have := h.heap.dist id id' W0 W' L L' b g1 (hsub _ _ e1) g3 e2 g4 e3
    subst this
    rw [e1] at g2; cases g2
  refine ⟨ρ2, ⟨h.defers.turn (fun b hb => q5 b (Array.getElem?_eq_some_iff.1 hb).1 (fun ⟨id', W', L', e1, e2, e3⟩ => own_undef h.heap hb ⟨id', W', L', hsub _ _ e1, e2, e3⟩)), h.size, fun k av hk => ?_, ⟨fun id W hW => ?_, fun i j W W' L L' b e1 e2 e3 e4 e5 e6 => ?_, fun id W L b e1 e2 e3 hx => ?_⟩, fun id W L b e1 e2 e3 => ?_, ?_, fun b hb => Nat.lt_of_lt_of_le (h.x0 b hb) q4⟩, ?_⟩
  · simp only [afterS, sget_append] at hk
    cases hb : sget (backS st.s h' args as) k with
    | some av1 =>
      rw [hb] at hk
      obtain rfl : av1 = av := Option.some.inj hk
      obtain ⟨j, i, o, n, g1, g2, rfl, g3, g4⟩ := backS_mem hb
      have hj : j < vs.size := by
        have := (List.getElem?_eq_some_iff.1 g1).1
        omega
      have hv := Array.getElem?_eq_getElem hj
      obtain ⟨e1, e2⟩ := hrv j _ _ hv g1
      obtain ⟨e3, e4⟩ := e2 k rfl
      obtain ⟨av0, hav0⟩ := Option.isSome_iff_exists.1 g4
      have hkN : k < E.N := (h.slots k av0 hav0).1.resolve_right (Nat.not_le.2 e3)
      refine ⟨.inl hkN, ?_⟩
      have hsv : sval E a k = vs[j] := by
        unfold sval
        rw [if_pos hkN, e4]
      rw [hsv]
      exact ((has j _ _ hv g2).inC (h := h') g3 hin).mono (fun _ _ _ => rfl) (fun b _ hb hx => hb (hX1 b hx)) _ (fun _ _ h => h)
    | none =>
      rw [hb, Option.none_or, sget_killSI] at hk
      obtain ⟨av0, g1, rfl⟩ := Option.map_eq_some_iff.1 hk
      obtain ⟨g2, g3⟩ := h.slots k av0 g1
      exact ⟨g2, (g3.kI hold hkeep).mono hw hX2 _ (fun _ _ h => h)⟩
  · rcases hget2 id W hW with g4 | ⟨g4, g5, g6, W0, g7, rfl⟩
    · obtain ⟨L, g1, g2⟩ := hH.win id W g4
      refine ⟨L, hin id L (by rw [g4]; rfl) g1, ?_⟩
      have hiw := inH_get k1 g4
      cases W with
      | arr sz es => exact g2.mono (fun _ _ => rfl) (fun _ _ _ => rfl) (fun b _ hb hx => hb (hX1 b hx)) (fun _ _ h => h) (ρ' := ρ')
      | var cs =>
        obtain ⟨b, e1, cur, t, fz, e2, e3, e4, e5, e6⟩ := g2
        refine ⟨b, e1, cur, t, fz, e2, e3, e4, e5, fun j v a e7 e8 => ?_⟩
        exact ((e6 j v a e7 e8).inC (List.all_eq_true.1 hiw a (List.mem_of_getElem? e8)) hin).mono (fun _ _ _ => rfl) (fun b _ hb hx => hb (hX1 b hx)) _ (fun _ _ h => h)
    · obtain ⟨L, g1, g2⟩ := h.heap.win id W0 g7
      refine ⟨L, hold id L g6 g1, ?_⟩
      cases W0 with
      | arr sz es => exact g2.mono (fun b hb => (hun id _ L b g7 g5 g1 hb).2) hw hX2 (fun _ _ h => h) (ρ' := ρ)
      | var cs =>
        obtain ⟨b, e1, cur, t, fz, e2, e3, e4, e5, e6⟩ := g2
        refine ⟨b, e1, cur, t, fz, (hun id _ L b g7 g5 g1 e1).2.trans e2, e3, by simpa using e4, by simp, fun j v a e7 e8 => ?_⟩
        rw [List.getElem?_map] at e8
        obtain ⟨a', e9, rfl⟩ := Option.map_eq_some_iff.1 e8
        exact ((e6 j v a' e7 e9).kcI hold hkeep).mono hw hX2 _ (fun _ _ h => h)
  · rcases hget2 i W e1 with g4 | ⟨g4, g5, g6, W0, g7, rfl⟩
    · simp only [ρ2, g4, Option.isSome_some, if_true] at e3
      rcases hget2 j W' e2 with f4 | ⟨f4, f5, f6, W0', f7, rfl⟩
      · simp only [ρ2, f4, Option.isSome_some, if_true] at e4
        exact hH.dist i j W W' L L' b g4 f4 e3 e4 e5 e6
      · simp only [ρ2, f4, Option.isSome_none, Bool.false_eq_true, if_false] at e4
        exact absurd (.inr ⟨j, W0', L', f7, f5, e4, e6⟩) (hH.out i W L b g4 e3 e5)
    · simp only [ρ2, g4, Option.isSome_none, Bool.false_eq_true, if_false] at e3
      rcases hget2 j W' e2 with f4 | ⟨f4, f5, f6, W0', f7, rfl⟩
      · simp only [ρ2, f4, Option.isSome_some, if_true] at e4
        exact absurd (.inr ⟨i, W0, L, g7, g5, e3, e5⟩) (hH.out j W' L' b f4 e4 e6)
      · simp only [ρ2, f4, Option.isSome_none, Bool.false_eq_true, if_false] at e4
        exact h.heap.dist i j W0 W0' L L' b g7 f7 e3 e4 e5 e6
  · rcases hget2 id W e1 with g4 | ⟨g4, g5, g6, W0, g7, rfl⟩
    · simp only [ρ2, g4, Option.isSome_some, if_true] at e2
      exact hH.out id W L b g4 e2 e3 (.inl hx)
    · simp only [ρ2, g4, Option.isSome_none, Bool.false_eq_true, if_false] at e2
      exact h.heap.out id W0 L b g7 e2 e3 hx
  · rcases hget2 id W e1 with g4 | ⟨g4, g5, g6, W0, g7, rfl⟩
    · simp only [ρ2, g4, Option.isSome_some, if_true] at e2
      rcases q6 b ⟨id, W, L, g4, e2, e3⟩ with g | ⟨id', W', L', f1, f2, f3⟩
      · exact .inl (Nat.le_trans h.frm.size g)
      · exact h.base id' W' L' b (hsub _ _ f1) f2 f3
    · simp only [ρ2, g4, Option.isSome_none, Bool.false_eq_true, if_false] at e2
      exact h.base id W0 L b g7 e2 e3
  · refine ⟨q1.trans h.frm.os, q2.trans h.frm.tape, q3.trans h.frm.output, Nat.le_trans h.frm.size q4, fun b hb hF => (q5 b (Nat.lt_of_lt_of_le hb h.frm.size) ?_).trans (h.frm.block b hb hF), h.frm.amb⟩
    rintro ⟨id', W', L', f1, f2, f3⟩
    rcases h.base id' W' L' b (hsub _ _ f1) f2 f3 with g | g
    · omega
    · exact hF g
  · exact (hr.inT k2 hin).mono (fun _ _ _ => rfl) (fun b _ hb hx => hb (hX1 b hx)) _ (fun _ _ h => h)
theorem acall_win {P : Program} {q : Bool} {st : St} {f : Nat} {args : List AE} {K : AV → St → Prop} {Post : HP → AV → List AV → Prop} (h0 : HP) (hs : Spec P f h0 (args.map (ev st)) Post)
    (hsub : ∀ i W, hget h0 i = some W → hget st.h i = some W) (hq : q = true → h0 = [])
    (hK : ∀ h' r as, Post h' r as → inH h' h' = true ∧ inT h' r = true ∧ K r (afterS st h0 args h' as)) : acall P q st f args K := by
  intro E ρ a w vs h hvs hrv
  have hx1 := outB_sub (E := E) (ρ := ρ) hsub
  refine (hs (outB E ρ st h0) ρ w vs (win_before h hsub) (h.amb.mono fun b ⟨id, W, L, g1, g2, g3⟩ => ⟨id, W, L, hsub _ _ g1, g2, g3⟩) (fun b hb => XX_all h b (hx1 b (.inl hb))) (by simpa using hvs) (fun j v x e1 e2 => ?_)).mono ?_
  · rw [List.getElem?_map] at e2
    obtain ⟨y, g1, rfl⟩ := Option.map_eq_some_iff.1 e2
    exact (hrv j v y e1 g1).1.mono (fun _ _ _ => rfl) (fun b _ hb hx => hb (hx1 b hx)) _ (fun _ _ h => h)
  · rintro e w' ⟨v, h', r, ρ', as, rfl, hP, hH, hr, hal, has, q1, q2, q3, q4, q5, q6⟩
    obtain ⟨k1, k2, k3⟩ := hK h' r as hP
    obtain ⟨ρ2, g1, g2⟩ := win_after h hvs hrv hsub k1 k2 hH hr (by simpa using hal) has q1 q2 q3 q4 q5 q6
    refine ⟨v, ρ2, _, r, rfl, g1, g2, k3, fun hqq => ?_⟩
    have h00 := hq hqq
    subst h00
    exact ⟨q1, q2, q3, q4, fun b hb => q5 b hb ownB_nil⟩
end Go.Proofs.YtgkcbhdpenmogaaDoor.Eng
