/- The engine, part J: calls by contract. -/
import Derived.Test.YtgkcbhdpenmogaaDoorEngI
set_option linter.all false
namespace Go.Proofs.YtgkcbhdpenmogaaDoor.Eng

def noRefT : AV → Bool
  | .tup vs => vs.all noRef
  | x => noRef x
/-- read from no memory at all -/
def flC : AV → Bool
  | .bool _ | .int _ _ | .fl _ _ | .cx _ _ _ | .str _ | .nilsl | .lit _ | .undef => true
  | _ => false
def flA : AV → Bool
  | .agg cs => cs.all flC
  | x => flC x
def flT : AV → Bool
  | .tup vs => vs.all flA
  | x => flA x
section
variable {X X' : Nat → Prop} {w w' : World} {ρ ρ' : Loc}
theorem RV.toNoA {v : Value} {x : AV} (h : RV X w ρ v x) (hn : noRef x = true) (ρ' : Loc) : RV X w ρ' v x := by
  cases x with
  | agg cs =>
    cases h with
    | agg _ vs _ hlen hrel => exact .agg _ _ _ hlen (fun j v a h1 h2 => (hrel j v a h1 h2).toNo (List.all_eq_true.1 hn a (List.mem_of_getElem? h2)) ρ')
  | _ => exact h.toNo hn ρ'
theorem RV.toNoT {v : Value} {x : AV} (h : RV X w ρ v x) (hn : noRefT x = true) (ρ' : Loc) : RV X w ρ' v x := by
  cases x with
  | tup cs =>
    cases h with
    | tup _ vs _ hlen hrel => exact .tup _ _ _ hlen (fun j v a h1 h2 => (hrel j v a h1 h2).toNoA (List.all_eq_true.1 hn a (List.mem_of_getElem? h2)) ρ')
  | _ => exact h.toNoA hn ρ'
theorem RV.flC {v : Value} {x : AV} (h : RV X w ρ v x) (hn : flC x = true) : RV X' w' ρ' v x := by
  cases h <;> first | (simp [Eng.flC] at hn; done) | skip
  · exact .undef _ _
  · exact .bool _ _
  · exact .int _ _ _
  · exact .fl _ _ _
  · exact .cx _ _ _ _
  · exact .str _ _
  · exact .lit _ _
  · exact .nilsl _
theorem RV.flA {v : Value} {x : AV} (h : RV X w ρ v x) (hn : flA x = true) : RV X' w' ρ' v x := by
  cases x with
  | agg cs =>
    cases h with
    | agg _ vs _ hlen hrel => exact .agg _ _ _ hlen (fun j v a h1 h2 => (hrel j v a h1 h2).flC (List.all_eq_true.1 hn a (List.mem_of_getElem? h2)))
  | _ => exact h.flC hn
theorem RV.flT {v : Value} {x : AV} (h : RV X w ρ v x) (hn : flT x = true) : RV X' w' ρ' v x := by
  cases x with
  | tup cs =>
    cases h with
    | tup _ vs _ hlen hrel => exact .tup _ _ _ hlen (fun j v a h1 h2 => (hrel j v a h1 h2).flA (List.all_eq_true.1 hn a (List.mem_of_getElem? h2)))
  | _ => exact h.flA hn
end

theorem hrel_nil (X0 : Nat → Prop) (ρ : Loc) (w : World) : HRel X0 ρ [] w := ⟨fun id W h => by simp [hget] at h, fun i j W W' L L' b h => by simp [hget] at h, fun i W L b h => by simp [hget] at h⟩
theorem ownB_nil {ρ : Loc} {b : Nat} : ¬ OwnB ρ [] b := fun ⟨id, W, L, h, _⟩ => by simp [hget] at h
theorem xx_nil {X0 : Nat → Prop} {ρ : Loc} {b : Nat} : XX X0 ρ [] b ↔ X0 b := ⟨fun h => h.elim id (fun h => (ownB_nil h).elim), .inl⟩

/-- a call whose arguments read from no memory of the call's own, and whose result is read-only -/
theorem acall_ro {P : Program} {q : Bool} {st : St} {f : Nat} {args : List AE} {K : AV → St → Prop} {Post : HP → AV → List AV → Prop} (hs : Spec P f [] (args.map (ev st)) Post) (hn : args.all (fun x => noRef (ev st x)) = true)
    (hK : ∀ h' r as, Post h' r as → h' = [] ∧ noRefT r = true ∧ K r st) : acall P q st f args K := by
  intro E ρ a w vs h hvs hrv
  have hlt : ∀ b, XX E.X0 ρ st.h b → b < w.heap.size := by
    intro b hb
    rcases hb with hb | hb
    · exact h.x0 b hb
    · exact XX_lt h hb
  refine (hs (XX E.X0 ρ st.h) noLoc w vs (hrel_nil _ _ _) (h.amb.mono fun _ hb => (ownB_nil hb).elim) hlt (by simpa using hvs) (fun j v x e1 e2 => ?_)).mono ?_
  · rw [List.getElem?_map] at e2
    obtain ⟨y, g1, rfl⟩ := Option.map_eq_some_iff.1 e2
    have := (hrv j v y e1 g1).1.toNoA (List.all_eq_true.1 hn y (List.mem_of_getElem? g1)) noLoc
    exact this.mono (fun _ _ _ => rfl) (fun b _ hb => fun hx => hb (xx_nil.1 hx)) _ (fun _ _ h => h)
  · rintro e w' ⟨v, h', r, ρ', as, rfl, hP, _, g2, _, _, g3, g4, g5, g6, g7, _⟩
    obtain ⟨rfl, q1, q2⟩ := hK h' r as hP
    have hsame : Same w w' := ⟨g3, g4, g5, g6, fun b hb => g7 b hb ownB_nil⟩
    refine ⟨v, ρ, st, r, rfl, h.same hsame, ?_, q2, fun _ => hsame⟩
    exact (g2.toNoT q1 ρ).mono (fun _ _ _ => rfl) (fun b _ hb => fun hx => hb (xx_nil.2 hx)) ρ (fun _ _ h => h)

def borrowC (h : HP) : AV → AV
  | .sl id off n => match hget h id with
    | some (.arr sz es) => .ro sz (sub3 es off n)
    | _ => .undef
  | .ptr _ _ _ => .undef
  | .vptr _ _ => .undef
  | .agg _ => .undef
  | .tup _ => .undef
  | .gd _ _ => .undef
  | .clo _ _ => .undef
  | x => x
def borrow (h : HP) : AV → AV
  | .agg cs => .agg (cs.map (borrowC h))
  | x => borrowC h x
section
variable {E : Env} {ρ : Loc} {st : St} {a : Act} {w : World}
theorem borrowC_sound (h : RelAt E ρ st a w) {v : Value} {x : AV} (hx : RV (XX E.X0 ρ st.h) w ρ v x) (ρ' : Loc) : RV E.X0 w ρ' v (borrowC st.h x) := by
  have up : ∀ b, ¬ XX E.X0 ρ st.h b → ¬ E.X0 b := fun b hb hx => hb (.inl hx)
  cases hx with
  | sl _ id off n c L A hL h1 h2 h3 hA =>
    simp only [borrowC]
    split
    · rename_i sz es hid
      obtain ⟨vs, hr, hn⟩ := sl_read h hid hL h1 h2 h3 hA
      have := RV.ro (X := E.X0) (w := w) ρ' A c sz (sub3 es off n) vs (by omega) hr.hsz (by rw [flat_length hr.hsz, hr.len])
        (fun j hj => by
          obtain ⟨ad, g1, g2, g3⟩ := hr.cell j hj
          refine ⟨ad, g1, g2, fun hx => ?_, g3⟩
          have hc : c ≠ 0 := by
            intro e
            have : n = 0 := by omega
            rw [hr.len, hn, this] at hj; omega
          rcases hA with hA | hA
          · exact hc hA
          · rw [hA] at g1
            cases hb : L.b with
            | none => rw [hb] at g1; cases g1
            | some b =>
              rw [hb] at g1
              obtain rfl := Option.some.inj g1
              exact h.heap.out id _ L b hid hL hb hx)
        (fun j v x e1 e2 => (hr.rel j v x e1 e2).mono (fun _ _ _ => rfl) (fun b _ hb => up b hb) noLoc (fun _ _ h => h))
      rw [hn] at this
      exact this
    · exact .undef _ _
  | ptr _ i j f L b hL hb hi hf => exact .undef _ _
  | vptr _ i f L b hL hb => exact .undef _ _
  | agg _ vs cs hlen hrel => exact .undef _ _
  | tup _ vs cs hlen hrel => exact .undef _ _
  | gd _ b x v h => exact .undef _ _
  | clo _ f vs cs hlen hrel => exact .undef _ _
  | undef _ v => exact .undef _ _
  | bool _ b => exact .bool _ _
  | int _ k n => exact .int _ _ _
  | fl _ k b => exact .fl _ _ _
  | cx _ k re im => exact .cx _ _ _ _
  | str _ s => exact .str _ _
  | lit _ x => exact .lit _ _
  | nilsl _ => exact .nilsl _
  | ro _ A c sz es vs hc hsz hlen hcell hrel =>
    exact .ro _ _ _ _ _ vs hc hsz hlen (fun j hj => by obtain ⟨ad, g1, g2, g3, g4⟩ := hcell j hj; exact ⟨ad, g1, g2, up _ g3, g4⟩) (fun j v a h1 h2 => (hrel j v a h1 h2).mono (fun _ _ _ => rfl) (fun b _ hb => up b hb) noLoc (fun _ _ h => h))
  | elt _ ad x vs hsp hlen hcell hrel =>
    exact .elt _ _ _ vs hsp hlen (fun j hj => ⟨up _ (hcell j hj).1, (hcell j hj).2⟩) (fun j v a h1 h2 => (hrel j v a h1 h2).mono (fun _ _ _ => rfl) (fun b _ hb => up b hb) noLoc (fun _ _ h => h))
theorem borrow_sound (h : RelAt E ρ st a w) {v : Value} {x : AV} (hx : RV (XX E.X0 ρ st.h) w ρ v x) (ρ' : Loc) : RV E.X0 w ρ' v (borrow st.h x) := by
  cases x with
  | agg cs =>
    cases hx with
    | agg _ vs _ hlen hrel =>
      refine .agg _ _ _ (by simpa using hlen) (fun j v a h1 h2 => ?_)
      rw [List.getElem?_map] at h2
      obtain ⟨a', h3, rfl⟩ := Option.map_eq_some_iff.1 h2
      exact borrowC_sound h (hrel j v a' h1 h3) ρ'
  | _ => exact borrowC_sound h hx ρ'
end
/-- a call that may read the call's own memory; its result reads from no memory -/
theorem acall_flat {P : Program} {q : Bool} {st : St} {f : Nat} {args : List AE} {K : AV → St → Prop} {Post : HP → AV → List AV → Prop} (hs : Spec P f [] (args.map fun x => borrow st.h (ev st x)) Post)
    (hK : ∀ h' r as, Post h' r as → h' = [] ∧ flT r = true ∧ K r st) : acall P q st f args K := by
  intro E ρ a w vs h hvs hrv
  refine (hs E.X0 noLoc w vs (hrel_nil _ _ _) (h.amb.mono fun _ hb => (ownB_nil hb).elim) (fun b hb => h.x0 b hb) (by simpa using hvs) (fun j v x e1 e2 => ?_)).mono ?_
  · rw [List.getElem?_map] at e2
    obtain ⟨y, g1, rfl⟩ := Option.map_eq_some_iff.1 e2
    exact (borrow_sound h (hrv j v y e1 g1).1 noLoc).mono (fun _ _ _ => rfl) (fun b _ hb => fun hx => hb (xx_nil.1 hx)) _ (fun _ _ h => h)
  · rintro e w' ⟨v, h', r, ρ', as, rfl, hP, _, g2, _, _, g3, g4, g5, g6, g7, _⟩
    obtain ⟨rfl, q1, q2⟩ := hK h' r as hP
    have hsame : Same w w' := ⟨g3, g4, g5, g6, fun b hb => g7 b hb ownB_nil⟩
    exact ⟨v, ρ, st, r, rfl, h.same hsame, g2.flT q1, q2, fun _ => hsame⟩

/- A CALL THAT IS HANDED WINDOWS, OR HANDS BACK NEW ONES -/
def memN (i : Nat) : List Nat → Bool
  | [] => false
  | k :: r => if i = k then true else memN i r
def kcI (ids keep : List Nat) : AV → AV
  | .sl i o n => if memN i ids then .undef else .sl i o n
  | .ptr i j f => if memN i ids then .undef else .ptr i j f
  | .vptr i f => if memN i keep then .vptr i f else if memN i ids then .undef else .vptr i f
  | .agg _ => .undef
  | .tup _ => .undef
  | .gd _ _ => .undef
  | .clo _ _ => .undef
  | x => x
def kaI (ids keep : List Nat) : AV → AV
  | .agg cs => .agg (cs.map (kcI ids keep))
  | .clo f cs => .clo f (cs.map (kcI ids keep))
  | x => kcI ids keep x
def kI (ids keep : List Nat) : AV → AV
  | .tup cs => .tup (cs.map (kaI ids keep))
  | .gd b x => .gd b (kaI ids keep x)
  | x => kaI ids keep x
def kWI (ids keep : List Nat) : Win → Win
  | .arr sz es => .arr sz es
  | .var cs => .var (cs.map (kcI ids keep))
def killSI (ids keep : List Nat) : List (Nat × AV) → List (Nat × AV)
  | [] => []
  | (k, v) :: r => (k, kI ids keep v) :: killSI ids keep r
def dropH (ids keep : List Nat) : HP → HP
  | [] => []
  | (k, W) :: r => if memN k ids then dropH ids keep r else (k, kWI ids keep W) :: dropH ids keep r
def namesH : HP → List Nat
  | [] => []
  | (k, _) :: r => k :: namesH r
theorem sget_killSI (ids keep : List Nat) (j : Nat) : ∀ s, sget (killSI ids keep s) j = (sget s j).map (kI ids keep)
  | [] => rfl
  | (k, v) :: r => by
    simp only [killSI, sget, sget_killSI ids keep j r]
    split <;> simp
theorem hget_dropH (ids keep : List Nat) (j : Nat) : ∀ h, hget (dropH ids keep h) j = if memN j ids then none else (hget h j).map (kWI ids keep)
  | [] => by simp [dropH, hget]
  | (k, W) :: r => by
    unfold dropH
    by_cases hk : memN k ids = true
    · rw [if_pos hk, hget_dropH ids keep j r]
      simp only [hget]
      by_cases hj : j = k
      · subst hj; simp [hk]
      · simp [hj]
    · rw [if_neg hk]
      simp only [hget, hget_dropH ids keep j r]
      by_cases hj : j = k
      · subst hj; simp [hk]
      · simp [hj]
theorem hget_append (h1 h2 : HP) (j : Nat) : hget (h1 ++ h2) j = (hget h1 j).or (hget h2 j) := by
  induction h1 with
  | nil => simp [hget]
  | cons x l ih =>
    obtain ⟨k, v⟩ := x
    simp only [List.cons_append, hget, ih]
    split <;> simp
theorem memN_append (j : Nat) (l r : List Nat) : memN j (l ++ r) = (memN j l || memN j r) := by
  induction l with
  | nil => simp [memN]
  | cons x l ih =>
    simp only [List.cons_append, memN, ih]
    split <;> simp
theorem memN_names {h : HP} {j : Nat} : memN j (namesH h) = (hget h j).isSome := by
  induction h with
  | nil => rfl
  | cons x l ih =>
    obtain ⟨k, v⟩ := x
    simp only [namesH, memN, hget, ih]
    split <;> simp
section
variable {X X' : Nat → Prop} {w w' : World} {ρ ρ' : Loc} {ids keep : List Nat}
theorem RV.kcI {v : Value} {a : AV} (h : RV X w ρ v a) (h1 : ∀ i L, memN i ids = false → ρ i = some L → ρ' i = some L)
    (h2 : ∀ i L b, memN i keep = true → ρ i = some L → L.b = some b → ∃ L', ρ' i = some L' ∧ L'.b = some b ∧ L'.o = L.o) : RV X w ρ' v (kcI ids keep a) := by
  cases h with
  | undef _ v => exact .undef _ _
  | bool _ b => exact .bool _ _
  | int _ k n => exact .int _ _ _
  | fl _ k b => exact .fl _ _ _
  | cx _ k re im => exact .cx _ _ _ _
  | str _ s => exact .str _ _
  | lit _ x => exact .lit _ _
  | nilsl _ => exact .nilsl _
  | ro _ A c sz es vs hc hsz hlen hcell hrel => exact .ro _ _ _ _ _ vs hc hsz hlen hcell hrel
  | elt _ ad x vs hsp hlen hcell hrel => exact .elt _ _ _ vs hsp hlen hcell hrel
  | sl _ i off n c L A hL g1 g2 g3 hA =>
    show RV X w _ _ (if memN i ids then .undef else .sl i off n)
    split
    · exact .undef _ _
    · rename_i hm; exact .sl _ _ _ _ _ L A (h1 _ _ (by simpa using hm) hL) g1 g2 g3 hA
  | ptr _ i j f L b hL hb hi hf =>
    show RV X w _ _ (if memN i ids then .undef else .ptr i j f)
    split
    · exact .undef _ _
    · rename_i hm; exact .ptr _ _ _ _ L b (h1 _ _ (by simpa using hm) hL) hb hi hf
  | vptr _ i f L b hL hb =>
    show RV X w _ _ (if memN i keep then .vptr i f else if memN i ids then .undef else .vptr i f)
    split
    · rename_i hm
      obtain ⟨L', g1, g2, g3⟩ := h2 i L b hm hL hb
      rw [← g3]
      exact .vptr _ _ _ L' b g1 g2
    · split
      · exact .undef _ _
      · rename_i hm; exact .vptr _ _ _ L b (h1 _ _ (by simpa using hm) hL) hb
  | agg _ vs cs hlen hrel => exact .undef _ _
  | tup _ vs cs hlen hrel => exact .undef _ _
  | gd _ b x v h h' => exact .undef _ _
  | clo _ f vs cs hlen hrel => exact .undef _ _
theorem RV.kaI {v : Value} {a : AV} (h : RV X w ρ v a) (h1 : ∀ i L, memN i ids = false → ρ i = some L → ρ' i = some L)
    (h2 : ∀ i L b, memN i keep = true → ρ i = some L → L.b = some b → ∃ L', ρ' i = some L' ∧ L'.b = some b ∧ L'.o = L.o) : RV X w ρ' v (kaI ids keep a) := by
  cases a with
  | agg cs =>
    cases h with
    | agg _ vs _ hlen hrel =>
      refine .agg _ _ _ (by simpa using hlen) (fun j v a e1 e2 => ?_)
      rw [List.getElem?_map] at e2
      obtain ⟨a', e3, rfl⟩ := Option.map_eq_some_iff.1 e2
      exact (hrel j v a' e1 e3).kcI h1 h2
  | clo f cs =>
    cases h with
    | clo _ _ vs _ hlen hrel =>
      refine .clo _ _ _ _ (by simpa using hlen) (fun j v a e1 e2 => ?_)
      rw [List.getElem?_map] at e2
      obtain ⟨a', e3, rfl⟩ := Option.map_eq_some_iff.1 e2
      exact (hrel j v a' e1 e3).kcI h1 h2
  | _ => exact h.kcI h1 h2
theorem RV.kI {v : Value} {a : AV} (h : RV X w ρ v a) (h1 : ∀ i L, memN i ids = false → ρ i = some L → ρ' i = some L)
    (h2 : ∀ i L b, memN i keep = true → ρ i = some L → L.b = some b → ∃ L', ρ' i = some L' ∧ L'.b = some b ∧ L'.o = L.o) : RV X w ρ' v (kI ids keep a) := by
  cases a with
  | tup cs =>
    cases h with
    | tup _ vs _ hlen hrel =>
      refine .tup _ _ _ (by simpa using hlen) (fun j v a e1 e2 => ?_)
      rw [List.getElem?_map] at e2
      obtain ⟨a', e3, rfl⟩ := Option.map_eq_some_iff.1 e2
      exact (hrel j v a' e1 e3).kaI h1 h2
  | gd b x =>
    cases h with
    | gd _ _ _ _ h h' => exact .gd _ _ _ _ (fun hb => (h hb).kaI h1 h2) h'
  | _ => exact h.kaI h1 h2
/-- its references are to windows of h alone -/
def inC (h : HP) : AV → Bool
  | .sl i _ _ => (hget h i).isSome
  | .ptr i _ _ => (hget h i).isSome
  | .vptr i _ => (hget h i).isSome
  | .agg _ => false
  | .tup _ => false
  | .gd _ _ => false
  | .clo _ _ => false
  | _ => true
def inA (h : HP) : AV → Bool
  | .agg cs => cs.all (inC h)
  | x => inC h x
def inT (h : HP) : AV → Bool
  | .tup vs => vs.all (inA h)
  | x => inA h x
def inW (h : HP) : Win → Bool
  | .arr _ _ => true
  | .var cs => cs.all (inC h)
def inH (h : HP) : HP → Bool
  | [] => true
  | (_, W) :: r => inW h W && inH h r
theorem inH_get {h : HP} : ∀ {g : HP} {i : Nat} {W : Win}, inH h g = true → hget g i = some W → inW h W = true
  | [], i, W, _, h2 => by simp [hget] at h2
  | (k, V) :: r, i, W, h1, h2 => by
    simp only [inH, Bool.and_eq_true] at h1
    simp only [hget] at h2
    split at h2
    · obtain rfl := Option.some.inj h2; exact h1.1
    · exact inH_get h1.2 h2
theorem RV.inC {h : HP} {v : Value} {a : AV} (hr : RV X w ρ v a) (hn : inC h a = true) (h1 : ∀ i L, (hget h i).isSome = true → ρ i = some L → ρ' i = some L) : RV X w ρ' v a := by
  cases hr <;> first | (simp [Eng.inC] at hn; done) | skip
  · exact .undef _ _
  · exact .bool _ _
  · exact .int _ _ _
  · exact .fl _ _ _
  · exact .cx _ _ _ _
  · exact .str _ _
  · exact .lit _ _
  · exact .nilsl _
  · rename_i A c sz es vs hc hsz hlen hcell hrel
    exact .ro _ _ _ _ _ vs (by assumption) (by assumption) (by assumption) (by assumption) (by assumption)
  · exact .elt _ _ _ _ (by assumption) (by assumption) (by assumption) (by assumption)
  · rename_i L A g1 g2 g3 hA hL
    exact .sl _ _ _ _ _ L A (h1 _ _ hn hL) g1 g2 g3 hA
  · rename_i L b hb hi hf hL
    exact .ptr _ _ _ _ L b (h1 _ _ hn hL) hb hi hf
  · rename_i L b hb hL
    exact .vptr _ _ _ L b (h1 _ _ hn hL) hb
theorem RV.inA {h : HP} {v : Value} {a : AV} (hr : RV X w ρ v a) (hn : inA h a = true) (h1 : ∀ i L, (hget h i).isSome = true → ρ i = some L → ρ' i = some L) : RV X w ρ' v a := by
  cases a with
  | agg cs =>
    cases hr with
    | agg _ vs _ hlen hrel => exact .agg _ _ _ hlen (fun j v a e1 e2 => (hrel j v a e1 e2).inC (List.all_eq_true.1 hn a (List.mem_of_getElem? e2)) h1)
  | _ => exact hr.inC hn h1
theorem RV.inT {h : HP} {v : Value} {a : AV} (hr : RV X w ρ v a) (hn : inT h a = true) (h1 : ∀ i L, (hget h i).isSome = true → ρ i = some L → ρ' i = some L) : RV X w ρ' v a := by
  cases a with
  | tup cs =>
    cases hr with
    | tup _ vs _ hlen hrel => exact .tup _ _ _ hlen (fun j v a e1 e2 => (hrel j v a e1 e2).inA (List.all_eq_true.1 hn a (List.mem_of_getElem? e2)) h1)
  | _ => exact hr.inA hn h1
end
end Go.Proofs.YtgkcbhdpenmogaaDoor.Eng
