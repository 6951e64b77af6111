/- The engine, part P: names of windows anew; nil slices as windows; weaker states; calls that lend windows. -/
import Derived.Test.YtgkcbhdpenmogaaDoorEngO
set_option linter.all false
namespace Go.Proofs.YtgkcbhdpenmogaaDoor.Eng
/- NAMES ANEW -/
def rn (id id' i : Nat) : Nat := bif i == id then id' else i
def renC (id id' : Nat) : AV → AV
  | .sl i o n => .sl (rn id id' i) o n
  | .ptr i j f => .ptr (rn id id' i) j f
  | .vptr i f => .vptr (rn id id' i) f
  | .agg _ => .undef
  | .tup _ => .undef
  | .gd _ _ => .undef
  | .clo _ _ => .undef
  | x => x
def renA (id id' : Nat) : AV → AV
  | .agg cs => .agg (cs.map (renC id id'))
  | .clo f cs => .clo f (cs.map (renC id id'))
  | x => renC id id' x
def renX (id id' : Nat) : AV → AV
  | .tup cs => .tup (cs.map (renA id id'))
  | .gd b x => .gd b (renA id id' x)
  | x => renA id id' x
def renW (id id' : Nat) : Win → Win
  | .arr sz es => .arr sz es
  | .var cs => .var (cs.map fun c => renC id id' (killC id' c))
def renS (id id' : Nat) : List (Nat × AV) → List (Nat × AV)
  | [] => []
  | (k, v) :: r => (k, renX id id' (kill id' v)) :: renS id id' r
def renH (id id' : Nat) : HP → HP
  | [] => []
  | (k, W) :: r => (rn id id' k, renW id id' W) :: renH id id' r
def stRen (id id' : Nat) (st : St) : St := ⟨renS id id' st.s, renH id id' st.h⟩
theorem rn_ne {id id' i : Nat} (h : i ≠ id) : rn id id' i = i := by unfold rn; rw [show (i == id) = false by simp [h]]; rfl
theorem rn_eq {id id' : Nat} : rn id id' id = id' := by unfold rn; simp
theorem sget_renS (id id' j : Nat) : ∀ s, sget (renS id id' s) j = (sget s j).map fun v => renX id id' (kill id' v)
  | [] => rfl
  | (k, v) :: r => by
    simp only [renS, sget, sget_renS id id' j r]
    split <;> simp
theorem hget_renH (id id' j : Nat) (hne : id ≠ id') : ∀ h, hget h id' = none → hget (renH id id' h) j = if j = id' then (hget h id).map (renW id id') else if j = id then none else (hget h j).map (renW id id')
  | [], _ => by simp [renH, hget]
  | (k, W) :: r, h0 => by
    simp only [hget] at h0
    split at h0
    · cases h0
    · rename_i hk
      have ih := hget_renH id id' j hne r h0
      simp only [renH, hget]
      by_cases hkid : k = id
      · subst hkid
        rw [rn_eq]
        by_cases hj : j = id'
        · simp [hj]
        · rw [if_neg hj, if_neg hj, ih, if_neg hj]
          split
          · rfl
          · rfl
      · rw [rn_ne hkid]
        by_cases hj : j = id'
        · subst hj
          rw [if_neg hk, ih]; simp [Ne.symm hkid]
        · rw [if_neg hj, ih, if_neg hj]
          by_cases hjk : j = k
          · subst hjk; simp [hkid]
          · rw [if_neg hjk, if_neg hjk]
section
variable {X : Nat → Prop} {w : World} {ρ : Loc}
def locR (ρ : Loc) (id id' : Nat) : Loc := fun j => if j = id' then ρ id else ρ j
theorem locR_rn {id id' i : Nat} {L : LW} (hi : i ≠ id') (h : ρ i = some L) : locR ρ id id' (rn id id' i) = some L := by
  unfold locR
  by_cases h1 : i = id
  · subst h1; rw [rn_eq, if_pos rfl]; exact h
  · rw [rn_ne h1, if_neg hi]; exact h
theorem RV.renC {v : Value} {a : AV} (h : RV X w ρ v a) (id id' : Nat) : RV X w (locR ρ id id') v (Eng.renC id id' (Eng.killC id' a)) := by
  cases h with
  | undef _ v => exact .undef _ _
  | bool _ b => exact .bool _ _
  | int _ k n => exact .int _ _ _
  | fl _ k b => exact .fl _ _ _
  | cx _ k re im => exact .cx _ _ _ _
  | str _ s => exact .str _ _
  | lit _ x => exact .lit _ _
  | nilsl _ => exact .nilsl _
  | ro _ A c sz es vs hc hsz hlen hcell hrel => exact .ro _ _ _ _ _ vs hc hsz hlen hcell hrel
  | elt _ ad x vs hsp hlen hcell hrel => exact .elt _ _ _ vs hsp hlen hcell hrel
  | sl _ i off n c L' A hL h1 h2 h3 hA =>
    show RV X w _ _ (Eng.renC id id' (if i = id' then .undef else .sl i off n))
    split
    · exact .undef _ _
    · rename_i hne; exact .sl _ _ _ _ _ L' A (locR_rn hne hL) h1 h2 h3 hA
  | ptr _ i j f L' b hL hb hi hf =>
    show RV X w _ _ (Eng.renC id id' (if i = id' then .undef else .ptr i j f))
    split
    · exact .undef _ _
    · rename_i hne; exact .ptr _ _ _ _ L' b (locR_rn hne hL) hb hi hf
  | vptr _ i f L' b hL hb =>
    show RV X w _ _ (Eng.renC id id' (if i = id' then .undef else .vptr i f))
    split
    · exact .undef _ _
    · rename_i hne; exact .vptr _ _ _ L' b (locR_rn hne hL) hb
  | agg _ vs cs hlen hrel => exact .undef _ _
  | tup _ vs cs hlen hrel => exact .undef _ _
  | gd _ b x v h h' => exact .undef _ _
  | clo _ f vs cs hlen hrel => exact .undef _ _
theorem RV.renA {v : Value} {a : AV} (h : RV X w ρ v a) (id id' : Nat) : RV X w (locR ρ id id') v (Eng.renA id id' (Eng.killA id' a)) := by
  cases a with
  | agg cs =>
    cases h with
    | agg _ vs _ hlen hrel =>
      refine .agg _ _ _ (by simpa using hlen) (fun j v a h1 h2 => ?_)
      rw [List.map_map, List.getElem?_map] at h2
      obtain ⟨a', h3, rfl⟩ := Option.map_eq_some_iff.1 h2
      exact (hrel j v a' h1 h3).renC id id'
  | clo f cs =>
    cases h with
    | clo _ _ vs _ hlen hrel =>
      refine .clo _ _ _ _ (by simpa using hlen) (fun j v a h1 h2 => ?_)
      rw [List.map_map, List.getElem?_map] at h2
      obtain ⟨a', h3, rfl⟩ := Option.map_eq_some_iff.1 h2
      exact (hrel j v a' h1 h3).renC id id'
  | _ => have := h.renC id id'; simp only [Eng.killA, Eng.killC] at this ⊢; first | exact this | (split at this <;> (rename_i e; simp only [e, if_true, if_false]; exact this))
theorem RV.renX {v : Value} {a : AV} (h : RV X w ρ v a) (id id' : Nat) : RV X w (locR ρ id id') v (Eng.renX id id' (Eng.kill id' a)) := by
  cases a with
  | tup cs =>
    cases h with
    | tup _ vs _ hlen hrel =>
      refine .tup _ _ _ (by simpa using hlen) (fun j v a h1 h2 => ?_)
      rw [List.map_map, List.getElem?_map] at h2
      obtain ⟨a', h3, rfl⟩ := Option.map_eq_some_iff.1 h2
      exact (hrel j v a' h1 h3).renA id id'
  | gd b x =>
    cases h with
    | gd _ _ _ _ h h' => exact .gd _ _ _ _ (fun hb => (h hb).renA id id') h'
  | agg cs => exact h.renA id id'
  | clo f cs => exact h.renA id id'
  | _ => have := h.renA id id'; simp only [Eng.kill, Eng.killA, Eng.killC] at this ⊢; first | exact this | (split at this <;> (rename_i e; simp only [e, if_true, if_false]; exact this))
end
theorem RelAt.ren {E : Env} {ρ : Loc} {st : St} {a : Act} {w : World} (h : RelAt E ρ st a w) (id id' : Nat) (hne : id ≠ id') (hno : hget st.h id' = none) : RelAt E (locR ρ id id') (stRen id id' st) a w := by
  have hg : ∀ j W', hget (renH id id' st.h) j = some W' → ∃ i W, j = rn id id' i ∧ i ≠ id' ∧ (j = id' ↔ i = id) ∧ hget st.h i = some W ∧ W' = renW id id' W := by
    intro j W' hj
    rw [hget_renH id id' j hne _ hno] at hj
    split at hj
    · rename_i e
      obtain ⟨W, g1, g2⟩ := Option.map_eq_some_iff.1 hj
      exact ⟨id, W, by rw [rn_eq, e], hne, by simp [e], g1, g2.symm⟩
    · rename_i e
      split at hj
      · cases hj
      · rename_i e2
        obtain ⟨W, g1, g2⟩ := Option.map_eq_some_iff.1 hj
        exact ⟨j, W, (rn_ne e2).symm, e, by simp [e, e2], g1, g2.symm⟩
  have hloc : ∀ i W L, hget st.h i = some W → i ≠ id' → locR ρ id id' (rn id id' i) = some L → ρ i = some L := by
    intro i W L h1 h2 h3
    unfold locR at h3
    by_cases e : i = id
    · subst e; rw [rn_eq, if_pos rfl] at h3; exact h3
    · rw [rn_ne e, if_neg h2] at h3; exact h3
  have hX : ∀ b, ¬ XX E.X0 ρ st.h b → ¬ XX E.X0 (locR ρ id id') (renH id id' st.h) b := by
    rintro b hn (hx | ⟨j, W', L, h1, h2, h3⟩)
    · exact hn (.inl hx)
    · obtain ⟨i, W, rfl, g1, _, g2, g3⟩ := hg j W' h1
      exact hn (.inr ⟨i, W, L, g2, hloc i W L g2 g1 h2, h3⟩)
  refine ⟨h.defers, h.size, fun k av hk => ?_, ⟨fun j W' hj => ?_, fun i j W W' L L' b h1 h2 h3 h4 h5 h6 => ?_, fun j W' L b h1 h2 h3 => ?_⟩, fun j W' L b h1 h2 h3 => ?_, h.frm, h.x0⟩
  · simp only [stRen] at hk
    rw [sget_renS] at hk
    obtain ⟨av0, g1, rfl⟩ := Option.map_eq_some_iff.1 hk
    obtain ⟨g2, g3⟩ := h.slots k av0 g1
    exact ⟨g2, (g3.renX id id').mono (fun _ _ _ => rfl) (fun b _ hb => hX b hb) _ (fun _ _ h => h)⟩
  · obtain ⟨i, W, rfl, g1, _, g2, rfl⟩ := hg j W' hj
    obtain ⟨L, g3, g4⟩ := h.heap.win i W g2
    refine ⟨L, locR_rn g1 g3, ?_⟩
    cases W with
    | arr sz es => exact g4.mono (fun _ _ => rfl) (fun _ _ _ => rfl) (fun b _ hb => hX b hb) (fun _ _ h => h) (ρ' := ρ)
    | var cs =>
      obtain ⟨b, e1, cur, t, fz, e2, e3, e4, e5, e6⟩ := g4
      refine ⟨b, e1, cur, t, fz, e2, e3, by simpa using e4, by simp, fun j v a e7 e8 => ?_⟩
      rw [List.getElem?_map] at e8
      obtain ⟨a', e9, rfl⟩ := Option.map_eq_some_iff.1 e8
      exact ((e6 j v a' e7 e9).renC id id').mono (fun _ _ _ => rfl) (fun b _ hb => hX b hb) _ (fun _ _ h => h)
  · obtain ⟨i1, W1, rfl, g1, g1', g2, g3⟩ := hg i W h1
    obtain ⟨j1, W2, rfl, f1, f1', f2, f3⟩ := hg j W' h2
    rw [h.heap.dist i1 j1 W1 W2 L L' b g2 f2 (hloc _ _ _ g2 g1 h3) (hloc _ _ _ f2 f1 h4) h5 h6]
  · obtain ⟨i, W, rfl, g1, _, g2, g3⟩ := hg j W' h1
    exact h.heap.out i W L b g2 (hloc _ _ _ g2 g1 h2) h3
  · obtain ⟨i, W, rfl, g1, _, g2, g3⟩ := hg j W' h1
    exact h.base i W L b g2 (hloc _ _ _ g2 g1 h2) h3

/- A NIL SLICE AS A WINDOW -/
theorem RelAt.slot {E : Env} {ρ : Loc} {st : St} {a : Act} {w : World} (h : RelAt E ρ st a w) (k : Nat) (hk : k < E.N ∨ 2000000 ≤ k) {av : AV} (hv : RV (XX E.X0 ρ st.h) w ρ (sval E a k) av) : RelAt E ρ ⟨(k, av) :: st.s, st.h⟩ a w :=
  ⟨h.defers, h.size, fun j av' hj => by
    simp only [sget] at hj
    split at hj
    · rename_i e; subst e; obtain rfl := Option.some.inj hj; exact ⟨hk, hv⟩
    · exact h.slots j av' hj, h.heap, h.base, h.frm, h.x0⟩
def stNil (k id sz : Nat) (st : St) : St := ⟨(k, .sl id 0 0) :: killS id st.s, hset (killH id st.h) id (.arr sz [])⟩
theorem rel_nilwin {E : Env} {ρ : Loc} {st : St} {a : Act} {w : World} (h : RelAt E ρ st a w) (id sz : Nat) : RelAt E (upd ρ id ⟨none, 0, sz, 0, 0⟩) ⟨killS id st.s, hset (killH id st.h) id (.arr sz [])⟩ a w :=
  h.fresh id ⟨none, 0, sz, 0, 0⟩ (.arr sz []) ⟨rfl, rfl, rfl, Nat.le_refl _, fun _ _ _ => rfl⟩ (fun g hg => by cases hg) ⟨rfl, rfl, Nat.le_refl _, fun e he => (by cases he), rfl⟩
theorem RelAt.nil {E : Env} {ρ : Loc} {st : St} {a : Act} {w : World} (h : RelAt E ρ st a w) (k id sz : Nat) (hk : sget st.s k = some .nilsl) : RelAt E (upd ρ id ⟨none, 0, sz, 0, 0⟩) (stNil k id sz st) a w := by
  obtain ⟨h1, h2⟩ := h.slots k _ hk
  refine (rel_nilwin h id sz).slot k h1 ?_
  generalize sval E a k = v at h2
  cases h2
  exact .sl _ _ _ _ _ ⟨none, 0, sz, 0, 0⟩ none (by simp [upd]) (Nat.le_refl _) (Nat.le_refl _) (Nat.le_refl _) (.inl rfl)
def stNilV (p f id sz : Nat) (cs : List AV) (st : St) : St := ⟨killS id st.s, hset (hset (killH id st.h) id (.arr sz [])) p (.var ((cs.map (killC id)).set f (.sl id 0 0)))⟩
theorem RelAt.nilV {E : Env} {ρ : Loc} {st : St} {a : Act} {w : World} (h : RelAt E ρ st a w) (p f id sz : Nat) (cs : List AV) (hp : hget st.h p = some (.var cs)) (hf : cs[f]? = some .nilsl) (hne : p ≠ id) :
    ∃ ρ', RelAt E ρ' (stNilV p f id sz cs st) a w := by
  have h2 := rel_nilwin h id sz
  have hp2 : hget (hset (killH id st.h) id (.arr sz [])) p = some (.var (cs.map (killC id))) := by
    rw [hget_hset, if_neg hne, hget_killH, hp]; rfl
  obtain ⟨L, g1, g2⟩ := h2.heap.win p _ hp2
  obtain ⟨L0, g3, g4⟩ := h.heap.win p _ hp
  have hL : L0 = L := by
    simp only [upd, if_neg hne] at g1
    rw [g1] at g3; exact (Option.some.inj g3).symm
  subst hL
  refine ⟨_, h2.modify p L0 (.var (cs.map (killC id))) _ hp2 g1 ⟨rfl, rfl, rfl, Nat.le_refl _, fun _ _ _ => rfl⟩ ?_⟩
  obtain ⟨b, e1, cur, t, fz, e2, e3, e4, e5, e6⟩ := g2
  refine ⟨b, e1, cur, t, fz, e2, e3, by simpa using e4, by simp, fun j v x e7 e8 => ?_⟩
  rw [List.getElem?_set] at e8
  split at e8
  · rename_i hj
    subst hj
    split at e8
    · obtain rfl := Option.some.inj e8
      obtain ⟨b', f1, cur', t', fz', f2, f3, f4, f5, f6⟩ := g4
      rw [e1] at f1
      obtain rfl := Option.some.inj f1
      rw [e2] at f2
      obtain ⟨rfl, _, _⟩ : cur = cur' ∧ t = t' ∧ fz = fz' := by
        have := Option.some.inj f2
        injection this with x1 x2 x3
        exact ⟨x1, x2, x3⟩
      have := f6 f v _ e7 hf
      cases this
      exact .sl _ _ _ _ _ ⟨none, 0, sz, 0, 0⟩ none (by simp [upd]) (Nat.le_refl _) (Nat.le_refl _) (Nat.le_refl _) (.inl rfl)
    · cases e8
  · exact e6 j v x e7 e8

theorem sget_numbered_get : ∀ (l : List AV) (k j : Nat) (x : AV), l[j]? = some x → sget (numbered k l) (k + j) = some x
  | [], k, j, x, h => by simp at h
  | y :: r, k, 0, x, h => by simp at h; simp [numbered, sget, h]
  | y :: r, k, j + 1, x, h => by
    simp only [numbered, sget]
    rw [if_neg (by omega), show k + (j + 1) = k + 1 + j by omega]
    exact sget_numbered_get r (k + 1) j x (by simpa using h)
/- WEAKER STATES -/
inductive VLe : AV → AV → Prop where
  | refl (a : AV) : VLe a a
  | nil (sz : Nat) : VLe .nilsl (.ro sz [])
  | undef (a : AV) : VLe a .undef
inductive LLe : List AV → List AV → Prop where
  | nil : LLe [] []
  | cons {a b : AV} {as bs : List AV} (h : VLe a b) (hs : LLe as bs) : LLe (a :: as) (b :: bs)
inductive TLe : AV → AV → Prop where
  | one {a b : AV} (h : VLe a b) : TLe a b
  | tup {as bs : List AV} (h : LLe as bs) : TLe (.tup as) (.tup bs)
theorem RV.vle {X : Nat → Prop} {w : World} {ρ : Loc} {v : Value} {a b : AV} (h : RV X w ρ v a) (k : VLe a b) : RV X w ρ v b := by
  cases k with
  | refl => exact h
  | nil sz => cases h; exact .ro ρ none 0 sz [] [] (Nat.le_refl _) (fun e he => by cases he) rfl (fun j hj => by simp at hj) (fun j v a h1 _ => by simp at h1)
  | undef => exact .undef _ _
theorem lle_get {as bs : List AV} (k : LLe as bs) : as.length = bs.length ∧ ∀ (j : Nat) (b : AV), bs[j]? = some b → ∃ a, as[j]? = some a ∧ VLe a b := by
  induction k with
  | nil => exact ⟨rfl, fun j b h => by simp at h⟩
  | cons h _ ih =>
    refine ⟨by simp [ih.1], fun j b hb => ?_⟩
    cases j with
    | zero => simp at hb; subst hb; exact ⟨_, rfl, h⟩
    | succ j => exact ih.2 j b (by simpa using hb)
theorem RV.tle {X : Nat → Prop} {w : World} {ρ : Loc} {v : Value} {a b : AV} (h : RV X w ρ v a) (k : TLe a b) : RV X w ρ v b := by
  cases k with
  | one k => exact h.vle k
  | tup k =>
    obtain ⟨h1, h2⟩ := lle_get k
    cases h with
    | tup _ vs _ hlen hrel =>
      refine .tup _ _ _ (by omega) (fun j v b e1 e2 => ?_)
      obtain ⟨a, e3, e4⟩ := h2 j b e2
      exact (hrel j v a e1 e3).vle e4
theorem RelAt.weakenG {E : Env} {ρ : Loc} {st st' : St} {a : Act} {w : World} (h : RelAt E ρ st a w) (hs : ∀ k v, sget st'.s k = some v → sget st.s k = some v) (hh : ∀ k v, hget st'.h k = some v → hget st.h k = some v) : RelAt E ρ st' a w := by
  have hX : ∀ b, ¬ XX E.X0 ρ st.h b → ¬ XX E.X0 ρ st'.h b := by
    intro b hn hx
    rcases hx with hx | ⟨j, W', L', h1, h2, h3⟩
    · exact hn (.inl hx)
    · exact hn (.inr ⟨j, W', L', hh j W' h1, h2, h3⟩)
  refine ⟨h.defers, h.size, fun k av hk => ?_, ⟨fun j W' hj => ?_, fun i j W1 W2 L1 L2 b h1 h2 h3 h4 h5 h6 => ?_, fun j W' L' b h1 h2 h3 hx => ?_⟩, fun j W' L' b h1 h2 h3 => ?_, h.frm, h.x0⟩
  · obtain ⟨h2, h3⟩ := h.slots k av (hs k av hk)
    exact ⟨h2, h3.mono (fun _ _ _ => rfl) (fun b _ hb => hX b hb) _ (fun _ _ h => h)⟩
  · obtain ⟨L, h1, h2⟩ := h.heap.win j W' (hh j W' hj)
    exact ⟨L, h1, h2.mono (fun _ _ => rfl) (fun _ _ _ => rfl) (fun b _ hb => hX b hb) (fun _ _ h => h)⟩
  · exact h.heap.dist i j W1 W2 L1 L2 b (hh _ _ h1) (hh _ _ h2) h3 h4 h5 h6
  · exact h.heap.out j W' L' b (hh _ _ h1) h2 h3 hx
  · exact h.base j W' L' b (hh _ _ h1) h2 h3
def leSt (st st' : St) : Prop := leS st.s st'.s ∧ leH st.h st'.h
inductive Wk : St → St → Prop where
  | le {s t : St} (h : leSt s t) : Wk s t
  | val {s t : St} (k : Nat) (v v' : AV) (hk : sget s.s k = some v) (hv : TLe v v') (h : Wk ⟨(k, v') :: s.s, s.h⟩ t) : Wk s t
  | drop {s t : St} (id : Nat) (h : Wk ⟨s.s, hdel id s.h⟩ t) : Wk s t
  | frz {s t : St} (id : Nat) (h : Wk (freeze s id) t) : Wk s t
  | ren {s t : St} (id id' : Nat) (hne : (id == id') = false) (hno : hget s.h id' = none) (h : Wk (stRen id id' s) t) : Wk s t
  | nil {s t : St} (k id sz : Nat) (hk : sget s.s k = some .nilsl) (h : Wk (stNil k id sz s) t) : Wk s t
  | nilV {s t : St} (p f id sz : Nat) (cs : List AV) (hp : hget s.h p = some (.var cs)) (hf : cs[f]? = some .nilsl) (hne : (p == id) = false) (h : Wk (stNilV p f id sz cs s) t) : Wk s t
theorem wk_rel {E : Env} {a : Act} {w : World} {s t : St} (k : Wk s t) : ∀ {ρ : Loc}, RelAt E ρ s a w → ∃ ρ', RelAt E ρ' t a w := by
  induction k with
  | le h => exact fun r => ⟨_, r.weaken h.1 h.2⟩
  | val k v v' hk hv _ ih =>
    intro ρ r
    obtain ⟨h1, h2⟩ := r.slots k v hk
    exact ih (r.slot k h1 (h2.tle hv))
  | drop id _ ih =>
    intro ρ r
    exact ih (r.weakenG (fun _ _ h => h) (fun k v hk => by
      simp only [hget_hdel] at hk
      split at hk
      · cases hk
      · exact hk))
  | frz id _ ih => exact fun r => ih (r.freeze id)
  | ren id id' hne hno _ ih => exact fun r => ih (r.ren id id' (by simpa using hne) hno)
  | nil k id sz hk _ ih => exact fun r => ih (r.nil k id sz hk)
  | nilV p f id sz cs hp hf hne _ ih =>
    intro ρ r
    obtain ⟨ρ', r'⟩ := r.nilV p f id sz cs hp hf (by simpa using hne)
    exact ih r'
theorem awp_wk {P : Program} {E : Env} {c : AC} {s t : St} {Q : Exit → St → Prop} (h : Wk s t) (k : AWp P E c t Q) : AWp P E c s Q :=
  fun n code hc a w hr => k n code hc a w (by obtain ⟨ρ, hr⟩ := hr; exact wk_rel h hr)
theorem getD_first (v : Value) (vs : Array Value) : (#[v] ++ vs).getD 0 undef = v := by
  rw [Array.getD_eq_getD_getElem?, Array.getElem?_append_left (by simp)]; rfl
/-- what a contract says behind, said weaker -/
theorem spec_wk {P : Program} {f : Nat} {h : HP} {args : List AV} {Post : HP → AV → List AV → Prop}
    (hs : Spec P f h args (fun h' r as => ∃ h2 r2 as2, as2.length = as.length ∧ Wk ⟨(0, r) :: numbered 1 as, h'⟩ ⟨(0, r2) :: numbered 1 as2, h2⟩ ∧ Post h2 r2 as2)) : Spec P f h args Post := by
  intro X0 ρ w vs h1 hA h2 h3 h4
  refine (hs X0 ρ w vs h1 hA h2 h3 h4).mono ?_
  rintro e w' ⟨v, h', r, ρ', as, rfl, ⟨h2', r2, as2, hlen, hwk, hP⟩, g3, g4, g5, g6, g7, g8, g9, g10, g11, g12⟩
  let E : Env := ⟨w', fun b => w.heap.size ≤ b ∨ OwnB ρ h b, X0, vs.size + 1, 0, fun _ => undef, none, 0, Nat.zero_le _, []⟩
  let a : Act := { tmps := #[v] ++ vs, defers := [] }
  have hsv : ∀ j, j < vs.size → sval E a (1 + j) = vs.getD j undef := by
    intro j hj
    unfold sval
    rw [if_pos (show 1 + j < vs.size + 1 by omega)]
    simp only [a, Array.getD_eq_getD_getElem?]
    rw [Array.getElem?_append_right (by simp)]
    simp
  have hr : RelAt E ρ' ⟨(0, r) :: numbered 1 as, h'⟩ a w' := by
    refine ⟨DfOK.nil _ _, by simp [a, E]; omega, fun k av hk => ?_, g3, fun id W L b e1 e2 e3 => .inr (g12 b ⟨id, W, L, e1, e2, e3⟩), ⟨rfl, rfl, rfl, Nat.le_refl _, fun _ _ _ => rfl, hA.1.stays (fun b _ _ _ hb _ => g11 b (hA.1.lt hb) (hA.2 b hb)), fun b hb hx => hx.elim (fun g => by have := hA.1.lt hb; omega) (hA.2 b hb)⟩, fun b hb => Nat.lt_of_lt_of_le (h2 b hb) g10⟩
    simp only [sget] at hk
    split at hk
    · rename_i e; subst e
      obtain rfl := Option.some.inj hk
      refine ⟨.inl (show 0 < vs.size + 1 by omega), ?_⟩
      have : sval E a 0 = v := by
        unfold sval
        rw [if_pos (show 0 < vs.size + 1 by omega)]
        simp only [a]; exact getD_first v vs
      rw [this]; exact g4
    · obtain ⟨e1, e2⟩ := sget_numbered as 1 k av hk
      have hlt := (List.getElem?_eq_some_iff.1 e2).1
      obtain ⟨j, rfl⟩ : ∃ j, k = 1 + j := ⟨k - 1, by omega⟩
      have hj : j < vs.size := by omega
      refine ⟨.inl (show 1 + j < vs.size + 1 by omega), ?_⟩
      rw [hsv j hj]
      have hv : vs[j]? = some (vs.getD j undef) := by rw [Array.getD_eq_getD_getElem?, Array.getElem?_eq_getElem hj]; rfl
      exact g6 j _ av hv (by rw [Nat.add_sub_cancel_left] at e2; exact e2)
  obtain ⟨ρ2, hr2⟩ := wk_rel hwk hr
  refine ⟨v, h2', r2, ρ2, as2, rfl, hP, hr2.heap, ?_, by omega, fun j u x e1 e2 => ?_, g7, g8, g9, g10, g11, fun b ⟨id, W, L, e1, e2, e3⟩ => ?_⟩
  · have := (hr2.slots 0 r2 (by simp [sget])).2
    have e : sval E a 0 = v := by
      unfold sval
      rw [if_pos (show 0 < vs.size + 1 by omega)]
      simp only [a]; exact getD_first v vs
    rw [e] at this; exact this
  · have hj := (Array.getElem?_eq_some_iff.1 e1).1
    have hs2 : sget ((0, r2) :: numbered 1 as2) (1 + j) = some x := by
      simp only [sget]
      rw [if_neg (by omega)]
      exact sget_numbered_get as2 1 j x e2
    have := (hr2.slots (1 + j) x hs2).2
    rw [hsv j hj, Array.getD_eq_getD_getElem?, e1] at this
    exact this
  · rcases hr2.base id W L b e1 e2 e3 with g | g
    · exact .inl (Nat.le_trans g10 g)
    · exact g
end Go.Proofs.YtgkcbhdpenmogaaDoor.Eng
