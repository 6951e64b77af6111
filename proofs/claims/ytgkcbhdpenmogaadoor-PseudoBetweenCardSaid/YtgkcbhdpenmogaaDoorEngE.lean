/- The engine, part E: operations that make or turn memory. -/
import Derived.Test.YtgkcbhdpenmogaaDoorEngD
set_option linter.all false
namespace Go.Proofs.YtgkcbhdpenmogaaDoor.Eng

theorem run_storeCells_gen (P : Program) (g o : Nat) (t : TypeId) (fz : Nat × Nat) : ∀ (vs : List Value) (i : Nat) (cur : Array Value) (w : World), w.heap[g]? = some (.cells cur t fz) → (∀ j, j < cur.size → ¬ (fz.1 ≤ j ∧ j < fz.2)) → o + i + vs.length ≤ cur.size → (∀ v ∈ vs, v.oneCell' = true) →
    (storeCells ⟨g, o, none⟩ vs i).run P w = .ok () (w.setRow g (cur.toList.take (o + i) ++ vs ++ cur.toList.drop (o + i + vs.length)).toArray)
  | [], i, cur, w, hg, _, _, _ => by
    simp only [storeCells, List.append_nil, List.length_nil, Nat.add_zero, List.take_append_drop, Array.toArray_toList]
    rw [setRow_self w g cur t fz hg]
    rfl
  | v :: rest, i, cur, w, hg, hz, hl, h1 => by
    have hi : o + i < cur.size := by simp at hl; omega
    have hadd : (⟨g, o, none⟩ : Addr).add i = ⟨g, o + i, none⟩ := by unfold Addr.add; split <;> simp_all
    have hcell : w.cell? ⟨g, o + i, none⟩ = some cur[o + i] := by simp [World.cell?, hg, hi]
    have hfro : w.frozen? ⟨g, o + i, none⟩ = false := by
      have := hz (o + i) hi
      simp only [World.frozen?, hg]
      simp only [Bool.and_eq_false_iff, decide_eq_false_iff_not]
      omega
    have hst : (store ((⟨g, o, none⟩ : Addr).add i) v).run P w = .ok () (w.setRow g (cur.setIfInBounds (o + i) v)) := by
      rw [hadd, run_store P w _ v _ (h1 v (by simp)), hcell]
      simp [hfro, setCell_eq_setRow w g (o + i) cur t fz v hg]
    have ih := run_storeCells_gen P g o t fz rest (i + 1) (cur.setIfInBounds (o + i) v) (w.setRow g (cur.setIfInBounds (o + i) v)) (setRow_heap w g cur _ t _ hg) (by simpa using hz) (by simp at hl ⊢; omega) (fun x hx => h1 x (by simp [hx]))
    simp only [storeCells, Sem.run_bind, hst, Result.andThen_ok, ih, setRow_setRow]
    congr 3
    have e := list_seg_step cur.toList (o + i) v rest (by simp at hl ⊢; omega)
    simpa [Array.toList_setIfInBounds, Nat.add_assoc] using e

def seg {α : Type} (l : List α) (k : Nat) (s : List α) : List α := l.take k ++ s ++ l.drop (k + s.length)
theorem seg_length {α : Type} {l : List α} {k : Nat} {s : List α} (h : k + s.length ≤ l.length) : (seg l k s).length = l.length := by
  unfold seg; simp; omega
theorem seg_get {α : Type} {l : List α} {k : Nat} {s : List α} (h : k + s.length ≤ l.length) (j : Nat) : (seg l k s)[j]? = if j < k then l[j]? else if j < k + s.length then s[j - k]? else l[j]? := by
  unfold seg
  have hk : min k l.length = k := by omega
  simp only [List.getElem?_append, List.length_append, List.length_take, hk, List.getElem?_take, List.getElem?_drop]
  by_cases h1 : j < k
  · rw [if_pos (by omega), if_pos h1, if_pos h1, if_pos h1]
  · by_cases h2 : j < k + s.length
    · rw [if_pos h2, if_neg h1, if_neg h1, if_pos h2]
    · rw [if_neg h2, if_neg h1, if_neg h2]
      congr 1
      omega
theorem seg_rel {R : Value → AV → Prop} {cur vs : List Value} {cs as : List AV} {o p : Nat} (h0 : ∀ (j : Nat) v a, cur[o + j]? = some v → cs[j]? = some a → R v a)
    (h1 : ∀ (j : Nat) v a, vs[j]? = some v → as[j]? = some a → R v a) (hl : vs.length = as.length) (hp : p + as.length ≤ cs.length) (hc : o + cs.length ≤ cur.length) :
    ∀ (j : Nat) v a, (seg cur (o + p) vs)[o + j]? = some v → (seg cs p as)[j]? = some a → R v a := by
  intro j v a e1 e2
  rw [seg_get (by omega)] at e1 e2
  by_cases h2 : j < p
  · rw [if_pos (by omega)] at e1
    rw [if_pos h2] at e2
    exact h0 j v a e1 e2
  · rw [if_neg (by omega)] at e1
    rw [if_neg h2] at e2
    by_cases h3 : j < p + as.length
    · rw [if_pos (by omega), show o + j - (o + p) = j - p by omega] at e1
      rw [if_pos h3] at e2
      exact h1 _ v a e1 e2
    · rw [if_neg (by omega)] at e1
      rw [if_neg h3] at e2
      exact h0 j v a e1 e2

/- REFERENCES -/
def noRefC : AV → Bool
  | .sl _ _ _ | .ptr _ _ _ | .vptr _ _ | .agg _ | .tup _ | .gd _ _ | .clo _ _ => false
  | _ => true
def noRef : AV → Bool
  | .agg cs => cs.all noRefC
  | x => noRefC x
theorem RV.toNo {X : Nat → Prop} {w : World} {ρ : Loc} {v : Value} {x : AV} (h : RV X w ρ v x) (hn : noRefC x = true) (ρ' : Loc) : RV X w ρ' v x := by
  cases h <;> first | (simp [noRefC] at hn; done) | skip
  · exact .undef _ _
  · exact .bool _ _
  · exact .int _ _ _
  · exact .fl _ _ _
  · exact .cx _ _ _ _
  · exact .str _ _
  · exact .lit _ _
  · exact .nilsl _
  · rename_i sz es A c vs hc hsz hlen hcell hrel; exact .ro _ _ _ _ _ vs hc hsz hlen hcell hrel
  · rename_i x ad vs hsp hlen hcell hrel; exact .elt _ _ _ vs hsp hlen hcell hrel

theorem noRef_cells {x : AV} (hn : noRef x = true) : ∀ a ∈ cellsOf x, noRefC a = true := by
  intro a ha
  cases x with
  | agg cs => exact List.all_eq_true.1 hn a ha
  | _ => simp only [cellsOf, List.mem_singleton] at ha; subst ha; exact hn

/- A NEW WINDOW -/
def newW (st : St) (d : Nat) (W : Win) : St := ⟨killS d st.s, hset (killH d st.h) d W⟩

section
variable {P : Program} {E : Env} {ρ : Loc} {st : St} {a : Act} {w : World}

theorem turned_same {id : Nat} {w' : World} (k : Same w w') : Turned ρ st.h id w w' := ⟨k.os, k.tape, k.output, k.size, fun b hb _ => k.block b hb⟩

/-- a block laid: an array window over it -/
theorem new_arr (h : RelAt E ρ st a w) (d sz : Nat) (es : List AV) (cur : Array Value) (t : TypeId) (fz : Nat × Nat) (w' : World) (cap : Nat) (hs : Same w w') (hb : w'.heap[w.heap.size]? = some (.cells cur t fz))
    (hz : ∀ j, j < cur.size → ¬ (fz.1 ≤ j ∧ j < fz.2)) (hsz : ∀ e ∈ es, (cellsOf e).length = sz) (hcap : es.length ≤ cap) (hcur : cap * sz ≤ cur.size)
    (hrel : ∀ (j : Nat) v x, cur[j]? = some v → (flat es)[j]? = some x → RV (XX E.X0 ρ st.h) w noLoc v x) :
    RelAt E (upd ρ d ⟨some w.heap.size, 0, sz, es.length, cap⟩) (newW st d (.arr sz es)) a w' := by
  refine h.fresh d ⟨some w.heap.size, 0, sz, es.length, cap⟩ (.arr sz es) (turned_same hs) (fun g hg => .inl ?_) ?_
  · have := Option.some.inj hg; omega
  · refine ⟨rfl, rfl, hcap, hsz, ⟨cur, t, fz, hb, hz, by simpa using hcur, ?_, fun j v x e1 e2 => hrel j v x (by simpa using e1) e2⟩⟩
    rw [flat_length hsz]
    exact Nat.mul_le_mul_right _ hcap
theorem new_var (h : RelAt E ρ st a w) (d : Nat) (cs : List AV) (cur : Array Value) (t : TypeId) (w' : World) (hs : Same w w') (hb : w'.heap[w.heap.size]? = some (.cells cur t (0, 0)))
    (hcur : cur.size = cs.length) (hrel : ∀ (j : Nat) v x, cur[j]? = some v → cs[j]? = some x → RV (XX E.X0 ρ st.h) w ρ v x) :
    RelAt E (upd ρ d ⟨some w.heap.size, 0, cs.length, 1, 1⟩) (newW st d (.var (cs.map (killC d)))) a w' := by
  refine h.fresh d ⟨some w.heap.size, 0, cs.length, 1, 1⟩ (.var (cs.map (killC d))) (turned_same hs) (fun g hg => .inl ?_) ?_
  · have := Option.some.inj hg; omega
  · refine ⟨_, rfl, cur, t, (0, 0), hb, fun j _ hj => by simp at hj, by simp; omega, by simp, fun j v x e1 e2 => ?_⟩
    rw [List.getElem?_map] at e2
    obtain ⟨x', e3, rfl⟩ := Option.map_eq_some_iff.1 e2
    exact (hrel j v x' (by simpa using e1) e3).killC d _
end

/- FREEZING: a window is no longer written; what refers to it reads as a list -/
def frzC (id sz : Nat) (es : List AV) : AV → AV
  | .sl i o n => if i = id then .ro sz (sub3 es o n) else .sl i o n
  | .ptr i j f => if i = id then .undef else .ptr i j f
  | .vptr i f => if i = id then .undef else .vptr i f
  | .agg _ => .undef
  | .tup _ => .undef
  | .gd _ _ => .undef
  | .clo _ _ => .undef
  | x => x
def frzA (id sz : Nat) (es : List AV) : AV → AV
  | .agg cs => .agg (cs.map (frzC id sz es))
  | .clo f cs => .clo f (cs.map (frzC id sz es))
  | x => frzC id sz es x
def frz (id sz : Nat) (es : List AV) : AV → AV
  | .tup cs => .tup (cs.map (frzA id sz es))
  | .gd b x => .gd b (frzA id sz es x)
  | x => frzA id sz es x
def frzS (id sz : Nat) (es : List AV) : List (Nat × AV) → List (Nat × AV)
  | [] => []
  | (k, v) :: r => (k, frz id sz es v) :: frzS id sz es r
def frzW (id sz : Nat) (es : List AV) : Win → Win
  | .arr sz' es' => .arr sz' es'
  | .var cs => .var (cs.map (frzC id sz es))
def frzH (id sz : Nat) (es : List AV) : List (Nat × Win) → List (Nat × Win)
  | [] => []
  | (k, v) :: r => (k, frzW id sz es v) :: frzH id sz es r
theorem sget_frzS (id sz : Nat) (es : List AV) (j : Nat) : ∀ s, sget (frzS id sz es s) j = (sget s j).map (frz id sz es)
  | [] => rfl
  | (k, v) :: r => by
    simp only [frzS, sget, sget_frzS id sz es j r]
    split <;> simp
theorem hget_frzH (id sz : Nat) (es : List AV) (j : Nat) : ∀ s, hget (frzH id sz es s) j = (hget s j).map (frzW id sz es)
  | [] => rfl
  | (k, v) :: r => by
    simp only [frzH, hget, hget_frzH id sz es j r]
    split <;> simp
def freeze (st : St) (id : Nat) : St :=
  match hget st.h id with
  | some (.arr sz es) => ⟨frzS id sz es st.s, frzH id sz es (hdel id st.h)⟩
  | _ => st

section
variable {P : Program} {E : Env} {ρ : Loc} {st : St} {a : Act} {w : World}
theorem RV.frzC {id sz : Nat} {es : List AV} {X X' : Nat → Prop} (hX : ∀ b, ¬ X b → ¬ X' b)
    (hread : ∀ off n c L A, ρ id = some L → off + n ≤ L.cnt → n ≤ c → off + c ≤ L.cap → (c = 0 ∨ A = L.b.map fun b => ⟨b, L.o + off * L.sz, none⟩) → RV X' w ρ (.slice A n c) (.ro sz (sub3 es off n)))
    {v : Value} {x : AV} (h : RV X w ρ v x) : RV X' w ρ v (frzC id sz es x) := by
  have up : RV X' w ρ v x := h.mono (fun _ _ _ => rfl) (fun b _ hb => hX b hb) ρ (fun _ _ h => h)
  cases h with
  | sl _ i off n c L A hL h1 h2 h3 hA =>
    show RV X' w ρ _ (if i = id then .ro sz (sub3 es off n) else .sl i off n)
    split
    · rename_i e; subst e; exact hread off n c L A hL h1 h2 h3 hA
    · exact up
  | ptr _ i j f L b hL hb hi hf =>
    show RV X' w ρ _ (if i = id then .undef else .ptr i j f)
    split
    · exact .undef _ _
    · exact up
  | vptr _ i f L b hL hb =>
    show RV X' w ρ _ (if i = id then .undef else .vptr i f)
    split
    · exact .undef _ _
    · exact up
  | agg _ vs cs hlen hrel => exact .undef _ _
  | tup _ vs cs hlen hrel => exact .undef _ _
  | gd _ b x v h h' => exact .undef _ _
  | clo _ f vs cs hlen hrel => exact .undef _ _
  | undef _ v => exact up
  | bool _ b => exact up
  | int _ k n => exact up
  | fl _ k b => exact up
  | cx _ k re im => exact up
  | str _ s => exact up
  | lit _ x => exact up
  | nilsl _ => exact up
  | ro _ A c sz es vs hc hsz hlen hcell hrel => exact up
  | elt _ ad x vs hsp hlen hcell hrel => exact up
theorem RV.frzA {id sz : Nat} {es : List AV} {X X' : Nat → Prop} (hX : ∀ b, ¬ X b → ¬ X' b)
    (hread : ∀ off n c L A, ρ id = some L → off + n ≤ L.cnt → n ≤ c → off + c ≤ L.cap → (c = 0 ∨ A = L.b.map fun b => ⟨b, L.o + off * L.sz, none⟩) → RV X' w ρ (.slice A n c) (.ro sz (sub3 es off n)))
    {v : Value} {x : AV} (h : RV X w ρ v x) : RV X' w ρ v (frzA id sz es x) := by
  cases x with
  | agg cs =>
    cases h with
    | agg _ vs _ hlen hrel =>
      refine .agg _ _ _ (by simpa using hlen) (fun j v a h1 h2 => ?_)
      rw [List.getElem?_map] at h2
      obtain ⟨a', h3, rfl⟩ := Option.map_eq_some_iff.1 h2
      exact RV.frzC hX hread (hrel j v a' h1 h3)
  | clo f cs =>
    cases h with
    | clo _ _ vs _ hlen hrel =>
      refine .clo _ _ _ _ (by simpa using hlen) (fun j v a h1 h2 => ?_)
      rw [List.getElem?_map] at h2
      obtain ⟨a', h3, rfl⟩ := Option.map_eq_some_iff.1 h2
      exact RV.frzC hX hread (hrel j v a' h1 h3)
  | _ => exact RV.frzC hX hread h
theorem RV.frz {id sz : Nat} {es : List AV} {X X' : Nat → Prop} (hX : ∀ b, ¬ X b → ¬ X' b)
    (hread : ∀ off n c L A, ρ id = some L → off + n ≤ L.cnt → n ≤ c → off + c ≤ L.cap → (c = 0 ∨ A = L.b.map fun b => ⟨b, L.o + off * L.sz, none⟩) → RV X' w ρ (.slice A n c) (.ro sz (sub3 es off n)))
    {v : Value} {x : AV} (h : RV X w ρ v x) : RV X' w ρ v (frz id sz es x) := by
  cases x with
  | tup cs =>
    cases h with
    | tup _ vs _ hlen hrel =>
      refine .tup _ _ _ (by simpa using hlen) (fun j v a h1 h2 => ?_)
      rw [List.getElem?_map] at h2
      obtain ⟨a', h3, rfl⟩ := Option.map_eq_some_iff.1 h2
      exact RV.frzA hX hread (hrel j v a' h1 h3)
  | gd b x => exact .gd _ _ _ _ (fun hb => RV.frzA hX hread (h.gd_inv hb)) h.gd_no
  | _ => exact RV.frzA hX hread h
theorem freeze_X (h : RelAt E ρ st a w) {id sz : Nat} {es : List AV} (hid : hget st.h id = some (.arr sz es)) :
    ∀ b, ¬ XX E.X0 ρ st.h b → ¬ XX E.X0 ρ (frzH id sz es (hdel id st.h)) b := by
  intro b hn hx
  rcases hx with hx | ⟨j, W', L', h1, h2, h3⟩
  · exact hn (.inl hx)
  · rw [hget_frzH, hget_hdel] at h1
    split at h1
    · cases h1
    · obtain ⟨W0, g1, g2⟩ := Option.map_eq_some_iff.1 h1
      exact hn (.inr ⟨j, W0, L', g1, h2, h3⟩)
theorem freeze_read (h : RelAt E ρ st a w) {id sz : Nat} {es : List AV} (hid : hget st.h id = some (.arr sz es)) :
    ∀ off n c L A, ρ id = some L → off + n ≤ L.cnt → n ≤ c → off + c ≤ L.cap → (c = 0 ∨ A = L.b.map fun b => ⟨b, L.o + off * L.sz, none⟩) →
      RV (XX E.X0 ρ (frzH id sz es (hdel id st.h))) w ρ (.slice A n c) (.ro sz (sub3 es off n)) := by
  intro off n c L A hL h1 h2 h3 hA
  obtain ⟨vs, hr, hn⟩ := sl_read h hid hL h1 h2 h3 hA
  have hX := freeze_X h hid
  have := RV.ro (X := XX E.X0 ρ (frzH id sz es (hdel id st.h))) (w := w) ρ A c sz (sub3 es off n) vs (by omega) hr.hsz (by rw [flat_length hr.hsz, hr.len])
    (fun j hj => by
      obtain ⟨ad, g1, g2, g3⟩ := hr.cell j hj
      refine ⟨ad, g1, g2, fun hx => ?_, g3⟩
      have hc : c ≠ 0 := by
        intro e
        have : n = 0 := by omega
        rw [hr.len, hn, this] at hj; omega
      rcases hA with hA | hA
      · exact hc hA
      · rw [hA] at g1
        cases hb : L.b with
        | none => rw [hb] at g1; cases g1
        | some b =>
          rw [hb] at g1
          obtain rfl := Option.some.inj g1
          rcases hx with hx | ⟨k, W', L', e1, e2, e3⟩
          · exact h.heap.out id _ L b hid hL hb hx
          · rw [hget_frzH, hget_hdel] at e1
            split at e1
            · cases e1
            · rename_i hne
              obtain ⟨W0, q1, q2⟩ := Option.map_eq_some_iff.1 e1
              exact hne (h.heap.dist k id W0 _ L' L b q1 hid e2 hL e3 hb))
    (fun j v x e1 e2 => (hr.rel j v x e1 e2).mono (fun _ _ _ => rfl) (fun b _ hb => hX b hb) noLoc (fun _ _ h => h))
  rw [hn] at this
  exact this
theorem RelAt.freeze (h : RelAt E ρ st a w) (id : Nat) : RelAt E ρ (freeze st id) a w := by
  unfold Eng.freeze
  split
  · rename_i sz es hid
    have hX := freeze_X h hid
    have hrd := freeze_read h hid
    have hget' : ∀ j W', hget (frzH id sz es (hdel id st.h)) j = some W' → j ≠ id ∧ ∃ W0, hget st.h j = some W0 ∧ W' = frzW id sz es W0 := by
      intro j W' hj
      rw [hget_frzH, hget_hdel] at hj
      split at hj
      · cases hj
      · rename_i hne
        obtain ⟨W0, g1, g2⟩ := Option.map_eq_some_iff.1 hj
        exact ⟨hne, W0, g1, g2.symm⟩
    refine ⟨h.defers, h.size, fun k av hk => ?_, ⟨fun j W' hj => ?_, fun i j W1 W2 L1 L2 b h1 h2 h3 h4 h5 h6 => ?_, fun j W' L' b h1 h2 h3 hx => ?_⟩, fun j W' L' b h1 h2 h3 => ?_, h.frm, h.x0⟩
    · simp only at hk
      rw [sget_frzS] at hk
      obtain ⟨av0, h1, rfl⟩ := Option.map_eq_some_iff.1 hk
      obtain ⟨h2, h3⟩ := h.slots k av0 h1
      exact ⟨h2, RV.frz hX hrd h3⟩
    · obtain ⟨hne, W0, g1, rfl⟩ := hget' j W' hj
      obtain ⟨L0, g2, g3⟩ := h.heap.win j W0 g1
      refine ⟨L0, g2, ?_⟩
      cases W0 with
      | arr sz' es' => exact g3.mono (fun _ _ => rfl) (fun _ _ _ => rfl) (fun b _ hb => hX b hb) (fun _ _ h => h)
      | var cs =>
        obtain ⟨b, q1, cur, t, fz, q2, q3, q4, q5, q6⟩ := g3
        refine ⟨b, q1, cur, t, fz, q2, q3, by simpa using q4, by simp, fun j v x e1 e2 => ?_⟩
        rw [List.getElem?_map] at e2
        obtain ⟨x', e3, rfl⟩ := Option.map_eq_some_iff.1 e2
        exact RV.frzC hX hrd (q6 j v x' e1 e3)
    · obtain ⟨_, V1, g1, _⟩ := hget' i W1 h1
      obtain ⟨_, V2, g2, _⟩ := hget' j W2 h2
      exact h.heap.dist i j V1 V2 L1 L2 b g1 g2 h3 h4 h5 h6
    · obtain ⟨_, V1, g1, _⟩ := hget' j W' h1
      exact h.heap.out j V1 L' b g1 h2 h3 hx
    · obtain ⟨_, V1, g1, _⟩ := hget' j W' h1
      exact h.base j V1 L' b g1 h2 h3
  · exact h

/- WHAT IS KEPT IN AN ARRAY: a slice of the call's own is frozen -/
def keepV (st : St) (v : AV) (K : AV → St → Prop) : Prop :=
  match v with
  | .sl id o n => match hget st.h id with
    | some (.arr sz es) => K (.ro sz (sub3 es o n)) (freeze st id)
    | _ => False
  | v => noRef v = true ∧ cellsOK v = true ∧ K v st
theorem keepV_sound (h : RelAt E ρ st a w) {v : Value} {x : AV} {K : AV → St → Prop} (hx : RV (XX E.X0 ρ st.h) w ρ v x) (hk : keepV st x K) :
    ∃ av st', RelAt E ρ st' a w ∧ (∀ b, ¬ XX E.X0 ρ st.h b → ¬ XX E.X0 ρ st'.h b) ∧ RV (XX E.X0 ρ st'.h) w ρ v av ∧ noRef av = true ∧ cellsOK av = true ∧ K av st' := by
  unfold keepV at hk
  split at hk
  · rename_i id o n
    split at hk
    · rename_i sz es hid
      have hf := h.freeze id
      have e : Eng.freeze st id = ⟨frzS id sz es st.s, frzH id sz es (hdel id st.h)⟩ := by unfold Eng.freeze; rw [hid]
      cases hx with
      | sl _ _ _ _ c L A hL h1 h2 h3 hA =>
        refine ⟨_, _, hf, ?_, ?_, rfl, rfl, hk⟩
        · rw [e]; exact freeze_X h hid
        · rw [e]; exact freeze_read h hid o n c L A hL h1 h2 h3 hA
    · exact hk.elim
  · exact ⟨_, st, h, fun _ h => h, hx, hk.1, hk.2.1, hk.2.2⟩
def keepL (st : St) : List AE → (List AV → St → Prop) → Prop
  | [], K => K [] st
  | x :: r, K => keepV st (ev st x) fun v st1 => keepL st1 r fun vs st2 => K (v :: vs) st2
theorem keepL_sound : ∀ (xs : List Operand) {ρ : Loc} {st : St} (K : List AV → St → Prop), RelAt E ρ st a w → keepL st (xs.map trE) K →
    ∃ avs st', RelAt E ρ st' a w ∧ (∀ b, ¬ XX E.X0 ρ st.h b → ¬ XX E.X0 ρ st'.h b) ∧ avs.length = xs.length ∧ (∀ (j : Nat) x v, xs[j]? = some x → avs[j]? = some v → RV (XX E.X0 ρ st'.h) w ρ (a.eval x) v ∧ noRef v = true ∧ cellsOK v = true) ∧ K avs st'
  | [], ρ, st, K, h, hk => ⟨[], st, h, fun _ h => h, rfl, fun j x v h1 h2 => by simp at h1, hk⟩
  | x :: r, ρ, st, K, h, hk => by
    obtain ⟨av, st1, h1, h2, h3, h4, h5, h6⟩ := keepV_sound h (evalRV h x) hk
    obtain ⟨avs, st2, g1, g2, g3, g4, g5⟩ := keepL_sound r (fun vs st2 => K (av :: vs) st2) h1 h6
    refine ⟨av :: avs, st2, g1, fun b hb => g2 b (h2 b hb), by simp [g3], fun j x' v e1 e2 => ?_, g5⟩
    cases j with
    | zero =>
      simp at e1 e2
      subst e1; subst e2
      exact ⟨h3.mono (fun _ _ _ => rfl) (fun b _ hb => g2 b hb) ρ (fun _ _ h => h), h4, h5⟩
    | succ j => exact g4 j x' v (by simpa using e1) (by simpa using e2)

theorem fill_all (sz : Nat) : ∀ (ps : List (Nat × Value)) (k : Nat) (cells : Array Value), ps.map (·.1) = List.range' k ps.length → (∀ q ∈ ps, q.2.cells.size = sz) → (k + ps.length) * sz ≤ cells.size →
    ∃ out, Instr.fill (fun i => some (i * sz, sz)) cells ps = some out ∧ out.size = cells.size ∧ ∀ m, out[m]? = if k * sz ≤ m ∧ m < (k + ps.length) * sz then (ps.flatMap fun q => q.2.cells.toList)[m - k * sz]? else cells[m]?
  | [], k, cells, _, _, _ => ⟨cells, rfl, rfl, fun m => by simp only [List.length_nil, Nat.add_zero]; rw [if_neg (by omega)]⟩
  | q :: r, k, cells, hm, hs, hb => by
    obtain ⟨i, v⟩ := q
    simp only [List.map_cons, List.length_cons, List.range'_succ, List.cons.injEq] at hm
    obtain ⟨rfl, hm⟩ := hm
    have hv : v.cells.size = sz := hs (i, v) (List.mem_cons_self ..)
    have hmul : (i + (r.length + 1)) * sz = i * sz + sz + r.length * sz := by rw [Nat.add_mul, Nat.succ_mul]; omega
    simp only [List.length_cons] at hb
    obtain ⟨out, h1, h2, h3⟩ := fill_all sz r (i + 1) (v.cells.zipIdx.foldl (fun cs (x : Value × Nat) => cs.setIfInBounds (i * sz + x.2) x.1) cells) hm (fun q hq => hs q (List.mem_cons_of_mem _ hq))
      (by rw [← Array.foldl_toList, Array.toList_zipIdx, zip_size]; have : (i + 1 + r.length) * sz = (i + (r.length + 1)) * sz := by congr 1; omega
          omega)
    have hsz : (v.cells.zipIdx.foldl (fun cs (x : Value × Nat) => cs.setIfInBounds (i * sz + x.2) x.1) cells).size = cells.size := by rw [← Array.foldl_toList, Array.toList_zipIdx, zip_size]
    refine ⟨out, ?_, by rw [h2, hsz], fun m => ?_⟩
    · unfold Instr.fill
      simp only
      rw [if_neg (by simp only [Bool.or_eq_true, decide_eq_true_eq, not_or]; exact ⟨by simpa using hv, by omega⟩)]
      exact h1
    · rw [h3 m, ← Array.foldl_toList, Array.toList_zipIdx, zip_fold]
      have e1 : (i + 1) * sz = i * sz + sz := Nat.succ_mul i sz
      have e2 : (i + 1 + r.length) * sz = i * sz + sz + r.length * sz := by rw [Nat.add_mul, e1]
      have e3 : (((i, v) :: r).flatMap fun q => q.2.cells.toList) = v.cells.toList ++ r.flatMap fun q => q.2.cells.toList := by simp
      have hvl : v.cells.toList.length = sz := by simpa using hv
      simp only [List.length_cons]
      simp only [hmul, e1, e2, e3]
      by_cases h4 : m < i * sz
      · rw [if_neg (by omega), if_neg (by omega), if_neg (by omega)]
      · by_cases h5 : m < i * sz + sz
        · rw [if_neg (by omega), if_pos ⟨by omega, by omega, by omega⟩, if_pos (by omega), List.getElem?_append_left (by omega)]
          congr 1
        · by_cases h6 : m < i * sz + sz + r.length * sz
          · rw [if_pos (by omega), if_pos (by omega), List.getElem?_append_right (by omega), hvl]
            congr 1
            omega
          · rw [if_neg (by omega), if_neg (by omega), if_neg (by omega)]
end
end Go.Proofs.YtgkcbhdpenmogaaDoor.Eng
