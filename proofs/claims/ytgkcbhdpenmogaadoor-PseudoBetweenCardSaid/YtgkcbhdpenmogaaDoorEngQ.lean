/- The engine, part Q: a call that reads windows of the caller (as read-only), is handed others, and hands back windows of flat elements. -/
import Derived.Test.YtgkcbhdpenmogaaDoorEngP
set_option linter.all false
namespace Go.Proofs.YtgkcbhdpenmogaaDoor.Eng
def packC : List AV → AV
  | [x] => x
  | l => .agg l
def bcell (h0 h : HP) : AV → AV
  | .sl i o n => match hget h0 i with
    | some _ => .undef
    | none => borrowC h (.sl i o n)
  | y => borrowC h y
def borC (h0 h : HP) : AV → AV
  | .sl id off n => match hget h0 id with
    | some _ => .sl id off n
    | none => borrowC h (.sl id off n)
  | .ptr id j f => match hget h0 id with
    | some _ => .ptr id j f
    | none => .undef
  | .vptr id f => match hget h0 id with
    | some _ => .vptr id f
    | none => match hget h id, f with
      | some (.var cs), 0 => .elt (packC (cs.map (bcell h0 h)))
      | _, _ => .undef
  | x => borrowC h x
def bor (h0 h : HP) : AV → AV
  | .agg cs => .agg (cs.map (borC h0 h))
  | x => borC h0 h x
def frC (h : HP) : AV → Bool
  | .sl i _ _ => (hget h i).isSome
  | .ptr i _ _ => (hget h i).isSome
  | .vptr i _ => (hget h i).isSome
  | x => flC x
def frA (h : HP) : AV → Bool
  | .agg cs => cs.all (frC h)
  | x => frC h x
def flI (h : HP) : AV → Bool
  | .tup vs => vs.all (frA h)
  | x => frA h x
def flW (h : HP) : Win → Bool
  | .arr _ es => es.all flA
  | .var cs => cs.all (frC h)
def flH (h : HP) : HP → Bool
  | [] => true
  | (_, W) :: r => flW h W && flH h r
theorem flH_get {h : HP} : ∀ {g : HP} {i : Nat} {W : Win}, flH h g = true → hget g i = some W → flW h W = true
  | [], i, W, _, h2 => by simp [hget] at h2
  | (k, V) :: r, i, W, h1, h2 => by
    simp only [flH, Bool.and_eq_true] at h1
    simp only [hget] at h2
    split at h2
    · obtain rfl := Option.some.inj h2; exact h1.1
    · exact flH_get h1.2 h2
section
variable {X X' : Nat → Prop} {w w' : World} {ρ ρ' : Loc}
theorem RV.frC {h : HP} {v : Value} {a : AV} (hr : RV X w ρ v a) (hn : frC h a = true) (h1 : ∀ i L, (hget h i).isSome = true → ρ i = some L → ρ' i = some L) : RV X' w' ρ' v a := by
  cases hr <;> first | (simp [Eng.frC, Eng.flC] at hn; done) | skip
  · exact .undef _ _
  · exact .bool _ _
  · exact .int _ _ _
  · exact .fl _ _ _
  · exact .cx _ _ _ _
  · exact .str _ _
  · exact .lit _ _
  · exact .nilsl _
  · rename_i L A g1 g2 g3 hA hL
    exact .sl _ _ _ _ _ L A (h1 _ _ hn hL) g1 g2 g3 hA
  · rename_i L b hb hi hf hL
    exact .ptr _ _ _ _ L b (h1 _ _ hn hL) hb hi hf
  · rename_i L b hb hL
    exact .vptr _ _ _ L b (h1 _ _ hn hL) hb
theorem RV.frA {h : HP} {v : Value} {a : AV} (hr : RV X w ρ v a) (hn : frA h a = true) (h1 : ∀ i L, (hget h i).isSome = true → ρ i = some L → ρ' i = some L) : RV X' w' ρ' v a := by
  cases a with
  | agg cs =>
    cases hr with
    | agg _ vs _ hlen hrel => exact .agg _ _ _ hlen (fun j v a e1 e2 => (hrel j v a e1 e2).frC (List.all_eq_true.1 hn a (List.mem_of_getElem? e2)) h1)
  | _ => exact hr.frC hn h1
theorem RV.frT {h : HP} {v : Value} {a : AV} (hr : RV X w ρ v a) (hn : flI h a = true) (h1 : ∀ i L, (hget h i).isSome = true → ρ i = some L → ρ' i = some L) : RV X' w' ρ' v a := by
  cases a with
  | tup cs =>
    cases hr with
    | tup _ vs _ hlen hrel => exact .tup _ _ _ hlen (fun j v a e1 e2 => (hrel j v a e1 e2).frA (List.all_eq_true.1 hn a (List.mem_of_getElem? e2)) h1)
  | _ => exact hr.frA hn h1
theorem flat_flC {es : List AV} (h : es.all flA = true) : ∀ a ∈ flat es, flC a = true := by
  intro a ha
  simp only [flat, List.mem_flatMap] at ha
  obtain ⟨e, he, ha⟩ := ha
  have h1 := List.all_eq_true.1 h e he
  cases e with
  | agg cs => exact List.all_eq_true.1 h1 a ha
  | _ => simp only [cellsOf, List.mem_singleton] at ha; subst ha; exact h1
theorem wrel_flat {h : HP} {L : LW} {sz : Nat} {es : List AV} (hf : flW h (.arr sz es) = true) (hr : WRel X w ρ L (.arr sz es)) : WRel X' w ρ' L (.arr sz es) := by
  obtain ⟨h1, h2, h3, h4, h5⟩ := hr
  refine ⟨h1, h2, h3, h4, ?_⟩
  cases hLb : L.b with
  | none => rw [hLb] at h5; exact h5
  | some b =>
    rw [hLb] at h5
    obtain ⟨cur, t, fz, e1, e2, e3, e4, e5⟩ := h5
    exact ⟨cur, t, fz, e1, e2, e3, e4, fun j v a g1 g2 => (e5 j v a g1 g2).flC (flat_flC hf a (List.mem_of_getElem? g2))⟩
end
section
variable {E : Env} {ρ : Loc} {st : St} {a : Act} {w : World} {h0 : HP}
theorem bor_X (h : RelAt E ρ st a w) (hsub : ∀ i W, hget h0 i = some W → hget st.h i = some W) : ∀ b, XX E.X0 ρ h0 b → XX E.X0 ρ st.h b := by
  rintro b (hb | ⟨id, W, L, g1, g2, g3⟩)
  · exact .inl hb
  · exact .inr ⟨id, W, L, hsub _ _ g1, g2, g3⟩
theorem bor_out (h : RelAt E ρ st a w) (hsub : ∀ i W, hget h0 i = some W → hget st.h i = some W) {id : Nat} {W : Win} {L : LW} {b : Nat} (h1 : hget st.h id = some W) (h2 : hget h0 id = none) (h3 : ρ id = some L) (h4 : L.b = some b) :
    ¬ XX E.X0 ρ h0 b := by
  rintro (hx | ⟨j, W', L', g1, g2, g3⟩)
  · exact h.heap.out id W L b h1 h3 h4 hx
  · have := h.heap.dist id j W W' L L' b h1 (hsub _ _ g1) h3 g2 h4 g3
    subst this
    rw [g1] at h2; cases h2
theorem borrowSl (h : RelAt E ρ st a w) (hsub : ∀ i W, hget h0 i = some W → hget st.h i = some W) {v : Value} {id off n : Nat} (hx : RV (XX E.X0 ρ st.h) w ρ v (.sl id off n)) (hn0 : hget h0 id = none) (ρ' : Loc) :
    RV (XX E.X0 ρ h0) w ρ' v (borrowC st.h (.sl id off n)) := by
  cases hx with
  | sl _ _ _ _ c L A hL h1 h2 h3 hA =>
    simp only [borrowC]
    split
    · rename_i sz es hid
      obtain ⟨vs, hr, hn⟩ := sl_read h hid hL h1 h2 h3 hA
      have := RV.ro (X := XX E.X0 ρ h0) (w := w) ρ' A c sz (sub3 es off n) vs (by omega) hr.hsz (by rw [flat_length hr.hsz, hr.len])
        (fun j hj => by
          obtain ⟨ad, g1, g2, g3⟩ := hr.cell j hj
          refine ⟨ad, g1, g2, fun hx => ?_, g3⟩
          have hc : c ≠ 0 := by
            intro e
            have : n = 0 := by omega
            rw [hr.len, hn, this] at hj; omega
          rcases hA with hA | hA
          · exact hc hA
          · rw [hA] at g1
            cases hb : L.b with
            | none => rw [hb] at g1; cases g1
            | some b =>
              rw [hb] at g1
              obtain rfl := Option.some.inj g1
              exact bor_out h hsub hid hn0 hL hb hx)
        (fun j v x e1 e2 => (hr.rel j v x e1 e2).mono (fun _ _ _ => rfl) (fun b _ hb hx => hb (bor_X h hsub b hx)) noLoc (fun _ _ h => h))
      rw [hn] at this
      exact this
    · exact .undef _ _
theorem borrowOther (h : RelAt E ρ st a w) (hsub : ∀ i W, hget h0 i = some W → hget st.h i = some W) {v : Value} {x : AV} (hx : RV (XX E.X0 ρ st.h) w ρ v x) (hns : ∀ id off n, x ≠ .sl id off n) (ρ' : Loc) :
    RV (XX E.X0 ρ h0) w ρ' v (borrowC st.h x) := by
  have up : ∀ b, ¬ XX E.X0 ρ st.h b → ¬ XX E.X0 ρ h0 b := fun b hb hx => hb (bor_X h hsub b hx)
  cases hx with
  | sl _ id off n c L A hL h1 h2 h3 hA => exact absurd rfl (hns id off n)
  | ptr _ i j f L b hL hb hi hf => exact .undef _ _
  | vptr _ i f L b hL hb => exact .undef _ _
  | agg _ vs cs hlen hrel => exact .undef _ _
  | tup _ vs cs hlen hrel => exact .undef _ _
  | gd _ b x v h => exact .undef _ _
  | clo _ f vs cs hlen hrel => exact .undef _ _
  | undef _ v => exact .undef _ _
  | bool _ b => exact .bool _ _
  | int _ k n => exact .int _ _ _
  | fl _ k b => exact .fl _ _ _
  | cx _ k re im => exact .cx _ _ _ _
  | str _ s => exact .str _ _
  | lit _ x => exact .lit _ _
  | nilsl _ => exact .nilsl _
  | ro _ A c sz es vs hc hsz hlen hcell hrel =>
    exact .ro _ _ _ _ _ vs hc hsz hlen (fun j hj => by obtain ⟨ad, g1, g2, g3, g4⟩ := hcell j hj; exact ⟨ad, g1, g2, up _ g3, g4⟩) (fun j v a h1 h2 => (hrel j v a h1 h2).mono (fun _ _ _ => rfl) (fun b _ hb => up b hb) noLoc (fun _ _ h => h))
  | elt _ ad x vs hsp hlen hcell hrel =>
    exact .elt _ _ _ vs hsp hlen (fun j hj => ⟨up _ (hcell j hj).1, (hcell j hj).2⟩) (fun j v a h1 h2 => (hrel j v a h1 h2).mono (fun _ _ _ => rfl) (fun b _ hb => up b hb) noLoc (fun _ _ h => h))
theorem packC_cells (h0 h : HP) (l : List AV) : cellsOf (packC (l.map (bcell h0 h))) = l.map (bcell h0 h) := by
  unfold packC
  split
  · rename_i x hx
    have hm : x ∈ l.map (bcell h0 h) := by rw [hx]; exact List.mem_singleton.2 rfl
    obtain ⟨y, _, rfl⟩ := List.mem_map.1 hm
    rw [hx]
    cases y <;> simp only [bcell, borrowC] <;> first | rfl | (split <;> first | rfl | (split <;> rfl))
  · rfl
theorem borC_sound (h : RelAt E ρ st a w) (hsub : ∀ i W, hget h0 i = some W → hget st.h i = some W) {v : Value} {x : AV} (hx : RV (XX E.X0 ρ st.h) w ρ v x) : RV (XX E.X0 ρ h0) w ρ v (borC h0 st.h x) := by
  cases x with
  | sl id off n =>
    simp only [borC]
    split
    · cases hx with
      | sl _ _ _ _ c L A hL h1 h2 h3 hA => exact .sl _ _ _ _ _ L A hL h1 h2 h3 hA
    · rename_i e; exact borrowSl h hsub hx e ρ
  | ptr id j f =>
    simp only [borC]
    split
    · cases hx with
      | ptr _ _ _ _ L b hL hb hi hf => exact .ptr _ _ _ _ L b hL hb hi hf
    · exact .undef _ _
  | vptr id f =>
    simp only [borC]
    split
    · cases hx with
      | vptr _ _ _ L b hL hb => exact .vptr _ _ _ L b hL hb
    · rename_i hn0
      split
      · rename_i cs hid
        cases hx with
        | vptr _ _ _ L b hL hb =>
          have hc := var_cells h hid hL hb
          obtain ⟨cur, t, fz, e1, e2, e3, e4, e5⟩ := hc
          refine .elt _ ⟨b, L.o + 0, none⟩ _ ((cur.toList.drop L.o).take cs.length) rfl (by rw [packC_cells]; simp; omega) (fun j hj => ⟨bor_out h hsub hid hn0 hL hb, ?_⟩) (fun j v x g1 g2 => ?_)
          · have hj' : j < cs.length := by simp at hj; omega
            rw [drop_take_get _ _ _ _ hj', Addr.add_lit, cell_of_row w b _ cur t fz e1, Array.getElem?_toList, Nat.add_zero]
          · have hj' : j < cs.length := by
              have := (List.getElem?_eq_some_iff.1 g1).1
              simp at this; omega
            rw [drop_take_get _ _ _ _ hj', Array.getElem?_toList] at g1
            rw [packC_cells, List.getElem?_map] at g2
            obtain ⟨y, g3, rfl⟩ := Option.map_eq_some_iff.1 g2
            have hy := e5 j v y g1 g3
            by_cases hs : ∃ i o n, y = .sl i o n
            · obtain ⟨i, o, n, rfl⟩ := hs
              simp only [bcell]
              split
              · exact .undef _ _
              · rename_i hi0; exact borrowSl h hsub hy hi0 noLoc
            · have hb : bcell h0 st.h y = borrowC st.h y := by cases y <;> first | rfl | exact absurd ⟨_, _, _, rfl⟩ hs
              rw [hb]
              exact borrowOther h hsub hy (fun i o n e => hs ⟨i, o, n, e⟩) noLoc
      · exact .undef _ _
  | _ => exact borrowOther h hsub hx (fun _ _ _ e => by cases e) ρ
theorem bor_sound (h : RelAt E ρ st a w) (hsub : ∀ i W, hget h0 i = some W → hget st.h i = some W) {v : Value} {x : AV} (hx : RV (XX E.X0 ρ st.h) w ρ v x) : RV (XX E.X0 ρ h0) w ρ v (bor h0 st.h x) := by
  cases x with
  | agg cs =>
    cases hx with
    | agg _ vs _ hlen hrel =>
      refine .agg _ _ _ (by simpa using hlen) (fun j v a h1 h2 => ?_)
      rw [List.getElem?_map] at h2
      obtain ⟨a', h3, rfl⟩ := Option.map_eq_some_iff.1 h2
      exact borC_sound h hsub (hrel j v a' h1 h3)
  | _ => exact borC_sound h hsub hx
end
theorem acall_bor {P : Program} {q : Bool} {st : St} {f : Nat} {args : List AE} {K : AV → St → Prop} {Post : HP → AV → List AV → Prop} (h0 : HP) (hs : Spec P f h0 (args.map fun x => bor h0 st.h (ev st x)) Post)
    (hsub : ∀ i W, hget h0 i = some W → hget st.h i = some W) (hq : q = true → h0 = [])
    (hK : ∀ h' r as, Post h' r as → flH h' h' = true ∧ flI h' r = true ∧ K r (afterS st h0 args h' as)) : acall P q st f args K := by
  intro E ρ a w vs h hvs hrv
  let X0c : Nat → Prop := E.X0
  have hx1 : ∀ b, XX X0c ρ h0 b → XX E.X0 ρ st.h b := by
    rintro b (hb | ⟨id, W, L, g1, g2, g3⟩)
    · exact .inl hb
    · exact .inr ⟨id, W, L, hsub _ _ g1, g2, g3⟩
  have hlt : ∀ b, XX E.X0 ρ st.h b → b < w.heap.size := by
    intro b hb
    rcases hb with hb | hb
    · exact h.x0 b hb
    · exact XX_lt h hb
  have hrel0 : HRel X0c ρ h0 w := by
    refine ⟨fun id W hW => ?_, fun i j W W' L L' b e1 e2 e3 e4 e5 e6 => h.heap.dist i j W W' L L' b (hsub _ _ e1) (hsub _ _ e2) e3 e4 e5 e6, fun id W L b e1 e2 e3 hx => ?_⟩
    · obtain ⟨L, g1, g2⟩ := h.heap.win id W (hsub _ _ hW)
      exact ⟨L, g1, g2.mono (fun _ _ => rfl) (fun _ _ _ => rfl) (fun b _ hb hx => hb (hx1 b hx)) (fun _ _ h => h)⟩
    · exact h.heap.out id W L b (hsub _ _ e1) e2 e3 hx
  refine (hs X0c ρ w vs hrel0 (h.amb.mono fun b ⟨id, W, L, g1, g2, g3⟩ => ⟨id, W, L, hsub _ _ g1, g2, g3⟩) (fun b hb => hlt b (hx1 b (.inl hb))) (by simpa using hvs) (fun j v x e1 e2 => ?_)).mono ?_
  · rw [List.getElem?_map] at e2
    obtain ⟨y, g1, rfl⟩ := Option.map_eq_some_iff.1 e2
    exact bor_sound h hsub (hrv j v y e1 g1).1
  · rintro e w' ⟨v, h', r, ρ', as, rfl, hP, hH, hr, hal, has, q1, q2, q3, q4, q5, q6⟩
    obtain ⟨k1, k2, k3⟩ := hK h' r as hP
    let ids := namesH h0 ++ namesH h'
    let keep := keepL2 (args.map (ev st)) as
    let ρ2 : Loc := fun j => if (hget h' j).isSome then ρ' j else ρ j
    have hin : ∀ i L, (hget h' i).isSome = true → ρ' i = some L → ρ2 i = some L := fun i L g1 g2 => by simp only [ρ2, g1, if_true, g2]
    have hout : ∀ i, memN i ids = false → hget h0 i = none ∧ hget h' i = none := by
      intro i hi
      simp only [ids, memN_append, Bool.or_eq_false_iff, memN_names] at hi
      exact ⟨by cases hh : hget h0 i <;> simp_all, by cases hh : hget h' i <;> simp_all⟩
    have hold : ∀ i L, memN i ids = false → ρ i = some L → ρ2 i = some L := fun i L g1 g2 => by
      simp only [ρ2, (hout i g1).2, Option.isSome_none, Bool.false_eq_true, if_false, g2]
    have hget2 : ∀ id W, hget (h' ++ dropH ids keep st.h) id = some W → hget h' id = some W ∨ (hget h' id = none ∧ hget h0 id = none ∧ memN id ids = false ∧ ∃ W0, hget st.h id = some W0 ∧ W = kWI ids keep W0) := by
      intro id W hW
      rw [hget_append] at hW
      cases hh : hget h' id with
      | some W1 => rw [hh] at hW; exact .inl hW
      | none =>
        rw [hh, Option.none_or, hget_dropH] at hW
        split at hW
        · cases hW
        · rename_i hm
          obtain ⟨W0, g1, g2⟩ := Option.map_eq_some_iff.1 hW
          exact .inr ⟨rfl, (hout id (by simpa using hm)).1, by simpa using hm, W0, g1, g2.symm⟩
    have hX1 : ∀ b, XX E.X0 ρ2 (h' ++ dropH ids keep st.h) b → XX E.X0 ρ' h' b ∨ XX E.X0 ρ st.h b := by
      rintro b (hb | ⟨id, W, L, g1, g2, g3⟩)
      · exact .inl (.inl hb)
      · rcases hget2 id W g1 with g4 | ⟨g4, g5, g6, W0, g7, _⟩
        · simp only [ρ2, g4, Option.isSome_some, if_true] at g2
          exact .inl (.inr ⟨id, W, L, g4, g2, g3⟩)
        · simp only [ρ2, g4, Option.isSome_none, Bool.false_eq_true, if_false] at g2
          exact .inr (.inr ⟨id, W0, L, g7, g2, g3⟩)
    have hX2 : ∀ b, b < w.heap.size → ¬ XX E.X0 ρ st.h b → ¬ XX E.X0 ρ2 (h' ++ dropH ids keep st.h) b := by
      intro b hb hn hx
      rcases hX1 b hx with (g | g) | g
      · exact hn (.inl g)
      · rcases q6 b g with g1 | g1
        · omega
        · exact hn (hx1 b (.inr g1))
      · exact hn g
    have hw : ∀ b, ¬ XX E.X0 ρ st.h b → b < w.heap.size → w'.heap[b]? = w.heap[b]? := fun b hn hb => q5 b hb (fun g => hn (hx1 b (.inr g)))
    have hkeep : ∀ i L b, memN i keep = true → ρ i = some L → L.b = some b → ∃ L', ρ2 i = some L' ∧ L'.b = some b ∧ L'.o = L.o := by
      intro i L b hm hL hb
      obtain ⟨j, fo, g1, g2⟩ := keepL2_mem hm
      have hj : j < vs.size := by
        have := (List.getElem?_eq_some_iff.1 g1).1
        simp at this; omega
      have hv := Array.getElem?_eq_getElem hj
      rw [List.getElem?_map] at g1
      obtain ⟨y, e1, e2⟩ := Option.map_eq_some_iff.1 g1
      have r1 := (hrv j _ y hv e1).1
      rw [e2] at r1
      have r2 := has j _ _ hv g2
      by_cases hd : (hget h' i).isSome = true
      · generalize vs[j] = vj at r1 r2
        cases r1 with
        | vptr _ _ _ L1 b1 hL1 hb1 =>
          rw [hL] at hL1
          obtain rfl := Option.some.inj hL1
          rw [hb] at hb1
          obtain rfl := Option.some.inj hb1
          generalize hz : (Value.pointer (some ⟨b, L.o + fo, none⟩)) = z at r2
          cases r2 with
          | vptr _ _ _ L2 b2 hL2 hb2 =>
            have hz' : b = b2 ∧ L.o + fo = L2.o + fo := by
              injection hz with hz
              injection hz with hz
              injection hz with hz1 hz2
              exact ⟨hz1, hz2⟩
            exact ⟨L2, hin i L2 hd hL2, by rw [hb2, hz'.1], by omega⟩
      · exact ⟨L, by simp only [ρ2, hd, Bool.false_eq_true, if_false, hL], hb, rfl⟩
    have hun : ∀ id W0 L b, hget st.h id = some W0 → hget h0 id = none → ρ id = some L → L.b = some b → b < w.heap.size ∧ w'.heap[b]? = w.heap[b]? := by
      intro id W0 L b g1 g2 g3 g4
      have hb := XX_lt h ⟨id, W0, L, g1, g3, g4⟩
      refine ⟨hb, q5 b hb ?_⟩
      rintro ⟨id', W', L', e1, e2, e3⟩
      have := h.heap.dist id id' W0 W' L L' b g1 (hsub _ _ e1) g3 e2 g4 e3
      subst this
      rw [e1] at g2; cases g2
    have hapart : ∀ i W L b j W0 L', hget h' i = some W → ρ' i = some L → L.b = some b → hget st.h j = some W0 → hget h0 j = none → ρ j = some L' → L'.b = some b → False := by
      intro i W L b j W0 L' g1 g2 g3 f1 f2 f3 f4
      rcases q6 b ⟨i, W, L, g1, g2, g3⟩ with g | ⟨id', W', L2, e1, e2, e3⟩
      · have := (hun j W0 L' b f1 f2 f3 f4).1; omega
      · have := h.heap.dist j id' W0 W' L' L2 b f1 (hsub _ _ e1) f3 e2 f4 e3
        subst this
        rw [e1] at f2; cases f2
    refine ⟨v, ρ2, afterS st h0 args h' as, r, rfl, ⟨h.defers.turn (fun b hb => q5 b (Array.getElem?_eq_some_iff.1 hb).1 (fun ⟨id', W', L', e1, e2, e3⟩ => own_undef h.heap hb ⟨id', W', L', hsub _ _ e1, e2, e3⟩)), h.size, fun k av hk => ?_, ⟨fun id W hW => ?_, fun i j W W' L L' b e1 e2 e3 e4 e5 e6 => ?_, fun id W L b e1 e2 e3 hx => ?_⟩, fun id W L b e1 e2 e3 => ?_, ?_, fun b hb => Nat.lt_of_lt_of_le (h.x0 b hb) q4⟩, ?_, k3, fun hqq => ?_⟩
    · simp only [afterS, sget_append] at hk
      cases hb : sget (backS st.s h' args as) k with
      | some av1 =>
        rw [hb] at hk
        obtain rfl : av1 = av := Option.some.inj hk
        obtain ⟨j, i, o, n, g1, g2, rfl, g3, g4⟩ := backS_mem hb
        have hj : j < vs.size := by
          have := (List.getElem?_eq_some_iff.1 g1).1
          omega
        have hv := Array.getElem?_eq_getElem hj
        obtain ⟨e1, e2⟩ := hrv j _ _ hv g1
        obtain ⟨e3, e4⟩ := e2 k rfl
        obtain ⟨av0, hav0⟩ := Option.isSome_iff_exists.1 g4
        have hkN : k < E.N := (h.slots k av0 hav0).1.resolve_right (Nat.not_le.2 e3)
        refine ⟨.inl hkN, ?_⟩
        have hsv : sval E a k = vs[j] := by
          unfold sval
          rw [if_pos hkN, e4]
        rw [hsv]
        exact (has j _ _ hv g2).frC (h := h') g3 hin
      | none =>
        rw [hb, Option.none_or, sget_killSI] at hk
        obtain ⟨av0, g1, rfl⟩ := Option.map_eq_some_iff.1 hk
        obtain ⟨g2, g3⟩ := h.slots k av0 g1
        exact ⟨g2, (g3.kI hold hkeep).mono hw hX2 _ (fun _ _ h => h)⟩
    · rcases hget2 id W hW with g4 | ⟨g4, g5, g6, W0, g7, rfl⟩
      · obtain ⟨L, g1, g2⟩ := hH.win id W g4
        refine ⟨L, hin id L (by rw [g4]; rfl) g1, ?_⟩
        have hiw := flH_get k1 g4
        cases W with
        | arr sz es => exact wrel_flat hiw g2
        | var cs =>
          obtain ⟨b, e1, cur, t, fz, e2, e3, e4, e5, e6⟩ := g2
          refine ⟨b, e1, cur, t, fz, e2, e3, e4, e5, fun j v a e7 e8 => ?_⟩
          exact (e6 j v a e7 e8).frC (List.all_eq_true.1 hiw a (List.mem_of_getElem? e8)) hin
      · obtain ⟨L, g1, g2⟩ := h.heap.win id W0 g7
        refine ⟨L, hold id L g6 g1, ?_⟩
        cases W0 with
        | arr sz es => exact g2.mono (fun b hb => (hun id _ L b g7 g5 g1 hb).2) hw hX2 (fun _ _ h => h) (ρ' := ρ)
        | var cs =>
          obtain ⟨b, e1, cur, t, fz, e2, e3, e4, e5, e6⟩ := g2
          refine ⟨b, e1, cur, t, fz, (hun id _ L b g7 g5 g1 e1).2.trans e2, e3, by simpa using e4, by simp, fun j v a e7 e8 => ?_⟩
          rw [List.getElem?_map] at e8
          obtain ⟨a', e9, rfl⟩ := Option.map_eq_some_iff.1 e8
          exact ((e6 j v a' e7 e9).kcI hold hkeep).mono hw hX2 _ (fun _ _ h => h)
    · rcases hget2 i W e1 with g4 | ⟨g4, g5, g6, W0, g7, rfl⟩
      · simp only [ρ2, g4, Option.isSome_some, if_true] at e3
        rcases hget2 j W' e2 with f4 | ⟨f4, f5, f6, W0', f7, rfl⟩
        · simp only [ρ2, f4, Option.isSome_some, if_true] at e4
          exact hH.dist i j W W' L L' b g4 f4 e3 e4 e5 e6
        · simp only [ρ2, f4, Option.isSome_none, Bool.false_eq_true, if_false] at e4
          exact (hapart i W L b j W0' L' g4 e3 e5 f7 f5 e4 e6).elim
      · simp only [ρ2, g4, Option.isSome_none, Bool.false_eq_true, if_false] at e3
        rcases hget2 j W' e2 with f4 | ⟨f4, f5, f6, W0', f7, rfl⟩
        · simp only [ρ2, f4, Option.isSome_some, if_true] at e4
          exact (hapart j W' L' b i W0 L f4 e4 e6 g7 g5 e3 e5).elim
        · simp only [ρ2, f4, Option.isSome_none, Bool.false_eq_true, if_false] at e4
          exact h.heap.dist i j W0 W0' L L' b g7 f7 e3 e4 e5 e6
    · rcases hget2 id W e1 with g4 | ⟨g4, g5, g6, W0, g7, rfl⟩
      · simp only [ρ2, g4, Option.isSome_some, if_true] at e2
        exact hH.out id W L b g4 e2 e3 hx
      · simp only [ρ2, g4, Option.isSome_none, Bool.false_eq_true, if_false] at e2
        exact h.heap.out id W0 L b g7 e2 e3 hx
    · rcases hget2 id W e1 with g4 | ⟨g4, g5, g6, W0, g7, rfl⟩
      · simp only [ρ2, g4, Option.isSome_some, if_true] at e2
        rcases q6 b ⟨id, W, L, g4, e2, e3⟩ with g | ⟨id', W', L', f1, f2, f3⟩
        · exact .inl (Nat.le_trans h.frm.size g)
        · exact h.base id' W' L' b (hsub _ _ f1) f2 f3
      · simp only [ρ2, g4, Option.isSome_none, Bool.false_eq_true, if_false] at e2
        exact h.base id W0 L b g7 e2 e3
    · refine ⟨q1.trans h.frm.os, q2.trans h.frm.tape, q3.trans h.frm.output, Nat.le_trans h.frm.size q4, fun b hb hF => (q5 b (Nat.lt_of_lt_of_le hb h.frm.size) ?_).trans (h.frm.block b hb hF), h.frm.amb⟩
      rintro ⟨id', W', L', f1, f2, f3⟩
      rcases h.base id' W' L' b (hsub _ _ f1) f2 f3 with g | g
      · omega
      · exact hF g
    · exact hr.frT k2 hin
    · have h00 := hq hqq
      subst h00
      exact ⟨q1, q2, q3, q4, fun b hb => q5 b hb ownB_nil⟩
end Go.Proofs.YtgkcbhdpenmogaaDoor.Eng
