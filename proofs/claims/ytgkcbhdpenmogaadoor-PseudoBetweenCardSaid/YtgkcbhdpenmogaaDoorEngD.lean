/- The engine, part D: all value operations; operations that make or turn memory. -/
import Derived.Test.YtgkcbhdpenmogaaDoorEngC
import Derived.Laws.Tables
set_option linter.all false
namespace Go.Proofs.YtgkcbhdpenmogaaDoor.Eng

section
variable {P : Program} {E : Env} {ρ : Loc} {st : St} {a : Act} {w : World} {γ : Bool} {K : AV → Prop}

theorem RV.str_of {X : Nat → Prop} {v : Value} {s : List UInt8} (h : RV X w ρ v (.str s)) : v = .string ⟨s.toArray⟩ := by cases h; rfl
theorem RV.bool_of {X : Nat → Prop} {v : Value} {b : Bool} (h : RV X w ρ v (.bool b)) : v = .bool b := by cases h; rfl
theorem RV.fl_of {X : Nat → Prop} {v : Value} {k : FloatKind} {b : Nat} (h : RV X w ρ v (.fl k b)) : v = .float k b := by cases h; rfl
theorem RV.cx_of {X : Nat → Prop} {v : Value} {k : FloatKind} {b c : Nat} (h : RV X w ρ v (.cx k b c)) : v = .complex k b c := by cases h; rfl
theorem ba_size (l : List UInt8) : (⟨l.toArray⟩ : ByteArray).size = l.length := by simp [ByteArray.size]
theorem ba_get (l : List UInt8) (i : Nat) (h : i < l.length) : (⟨l.toArray⟩ : ByteArray)[i]? = some (l.getD i 0) := by
  rw [List.getD_eq_getElem?_getD, List.getElem?_eq_getElem h]
  rw [getElem?_pos _ i (by simpa [ByteArray.size] using h)]
  rfl
theorem ba_extract (s : List UInt8) (l h : Nat) : (⟨s.toArray⟩ : ByteArray).extract l h = ⟨((s.drop l).take (h - l)).toArray⟩ := by
  apply ByteArray.ext
  simp [ByteArray.data_extract, List.extract_eq_take_drop]

theorem callBuiltin_run {b : Builtin} {c : Call} {o : Oper} (ho : o.op = .call c) (hc : c.callee = .builtin b) :
    (execOp a.eval o).run P w = (builtin b c.argTypes o.type (c.args.map fun | .const _ => true | _ => false) (c.args.map a.eval)).run P w := by
  unfold execOp
  simp [ho, resolve, hc, invoke]
  rfl

theorem avalLen_sound {t : TypeId} {ty : TypeId} {b : Bool} (ht : lenT P t = some b) {v : Value} {x : AV} (hx : RV (XX E.X0 ρ st.h) w ρ v x) (hl : avalLen b x K) :
    ∃ v' av, Runs P w (Builtin.len_ #[t] ty #[v]) v' ∧ RV (XX E.X0 ρ st.h) w ρ v' av ∧ K av := by
  unfold lenT at ht
  split at ht
  · rename_i hu
    obtain rfl := Option.some.inj ht
    unfold avalLen at hl
    split at hl
    · rename_i l e; cases e
      rw [RV.str_of hx]
      exact ⟨.int .i64 l.length, _, fun w' _ => by simp [Builtin.len_, run_underlying hu, goInt, ba_size], .int _ _ _, hl⟩
    · rename_i h; cases h
    · rename_i h; cases h
    · rename_i h; cases h
    · exact hl.elim
  · rename_i e hu
    obtain rfl := Option.some.inj ht
    unfold avalLen at hl
    split at hl
    · rename_i h; cases h
    · cases hx
      rename_i sz es A c vs hc hsz hlen hcell hrel _
      exact ⟨.int .i64 es.length, _, fun w' _ => by simp [Builtin.len_, run_underlying hu, goInt], .int _ _ _, hl⟩
    · rename_i n _
      cases hx
      exact ⟨.int .i64 n, _, fun w' _ => by simp [Builtin.len_, run_underlying hu, goInt], .int _ _ _, hl⟩
    · cases hx
      exact ⟨.int .i64 0, _, fun w' _ => by simp [Builtin.len_, run_underlying hu, goInt], .int _ _ _, hl⟩
    · exact hl.elim
  · cases ht
theorem run_complex (ts : Array TypeId) (ty : TypeId) (k : FloatKind) (x y : Nat) : (Builtin.complex_ ts ty #[.float k x, .float k y]).run P w = .ok (.complex k x y) w := by
  show ((if k = k then pure (.complex k x y) else stuck _ : Sem Value)).run P w = _
  rw [if_pos rfl]; rfl
theorem run_real (ts : Array TypeId) (ty : TypeId) (k : FloatKind) (x y : Nat) : (Builtin.real_ ts ty #[.complex k x y]).run P w = .ok (.float k x) w := rfl
theorem run_imag (ts : Array TypeId) (ty : TypeId) (k : FloatKind) (x y : Nat) : (Builtin.imag_ ts ty #[.complex k x y]).run P w = .ok (.float k y) w := rfl

theorem call_val_sound (h : RelAt E ρ st a w) {c : Call} {o : Oper} (ho : o.op = .call c) (hv : aval γ st (trCall P c) K) (hγ : γ = true) :
    OpGives P E ρ st w (execOp a.eval o) K := by
  obtain ⟨callee, args, argTypes⟩ := c
  obtain ⟨args⟩ := args
  obtain ⟨argTypes⟩ := argTypes
  unfold trCall at hv
  simp only at hv
  split at hv
  · rename_i x t
    split at hv
    · rename_i hlt
      obtain ⟨av, h1, h2⟩ := evg_sound h (x := x) hv hγ
      obtain ⟨v', av', g1, g2, g3⟩ := avalLen_sound (P := P) (E := E) (ty := o.type) hlt h1 h2
      exact ⟨v', av', fun w' hs => by rw [callBuiltin_run ho rfl]; simp [builtin, g1 w' hs], g2, g3⟩
    · exact hv.elim
  · rename_i x y
    obtain ⟨av, h1, h2⟩ := evg_sound h (x := x) hv hγ
    obtain ⟨av', h1', h2'⟩ := evg_sound h (x := y) h2 hγ
    split at h2'
    · obtain ⟨rfl, h3⟩ := h2'
      exact ⟨_, _, fun w' _ => by rw [callBuiltin_run ho rfl]; simp [builtin, RV.fl_of h1, RV.fl_of h1', run_complex], .cx _ _ _ _, h3⟩
    · exact h2'.elim
  · rename_i x
    obtain ⟨av, h1, h2⟩ := evg_sound h (x := x) hv hγ
    split at h2
    · exact ⟨_, _, fun w' _ => by rw [callBuiltin_run ho rfl]; simp [builtin, RV.cx_of h1, run_real], .fl _ _ _, h2⟩
    · exact h2.elim
  · rename_i x
    obtain ⟨av, h1, h2⟩ := evg_sound h (x := x) hv hγ
    split at h2
    · exact ⟨_, _, fun w' _ => by rw [callBuiltin_run ho rfl]; simp [builtin, RV.cx_of h1, run_imag], .fl _ _ _, h2⟩
    · exact h2.elim
  · rename_i x y
    obtain ⟨av, h1, h2⟩ := evg_sound h (x := x) hv hγ
    obtain ⟨av', h1', h2'⟩ := evg_sound h (x := y) h2 hγ
    unfold avalMM at h2'
    split at h2'
    · refine ⟨_, _, fun w' _ => ?_, .int _ _ _, h2'⟩; rw [callBuiltin_run ho rfl]; simp [builtin, RV.int_of h1, RV.int_of h1', Builtin.max_, Builtin.max2]
    · exact h2'.elim
  · rename_i x y
    obtain ⟨av, h1, h2⟩ := evg_sound h (x := x) hv hγ
    obtain ⟨av', h1', h2'⟩ := evg_sound h (x := y) h2 hγ
    unfold avalMM at h2'
    split at h2'
    · refine ⟨_, _, fun w' _ => ?_, .int _ _ _, h2'⟩; rw [callBuiltin_run ho rfl]; simp [builtin, RV.int_of h1, RV.int_of h1', Builtin.min_, Builtin.min2]
    · exact h2'.elim
  · split at hv
    · split at hv
      · split at hv <;> exact hv.elim
      · exact hv.elim
    · split at hv
      · split at hv <;> exact hv.elim
      · exact hv.elim
    · exact hv.elim
  · split at hv
    · split at hv <;> exact hv.elim
    · exact hv.elim
  · exact hv.elim
  · exact hv.elim

theorem eqC_run {X : Nat → Prop} {w0 : World} {ρ : Loc} {e : TypeId} {k : Nat} {a b : Value} {c d : AV} (hs : sortOf P e = some k) (hok : eqOK k c d = true) (h1 : RV X w0 ρ a c) (h2 : RV X w0 ρ b d) :
    P.plainKey e = true ∧ ∀ (d' : Nat) (w : World), (Op.equalIn (d' + 1) e a b).run P w = .ok (eqC c d) w := by
  unfold sortOf at hs
  split at hs
  · rename_i hu
    cases hs
    refine ⟨by simp [Program.plainKey, hu], ?_⟩
    cases c <;> cases d <;> simp [eqOK] at hok
    intro d' w
    rw [RV.bool_of h1, RV.bool_of h2]
    exact run_equalIn_bool' w d' e _ _ hu
  · rename_i q hu
    cases hs
    refine ⟨by simp [Program.plainKey, hu], ?_⟩
    cases c <;> cases d <;> simp [eqOK] at hok
    subst hok
    intro d' w
    rw [RV.int_of h1, RV.int_of h2, run_equalIn_int w d' e _ q _ _ hu]
    rfl
  · rename_i hu
    cases hs
    refine ⟨by simp [Program.plainKey, hu], ?_⟩
    cases c <;> cases d <;> simp [eqOK] at hok
    intro d' w
    generalize h1' : a = a' at h1
    generalize h2' : b = b' at h2
    cases h1
    cases h2
    rw [run_equalIn_string w d' e _ _ hu]
    simp [eqC, ByteArray.toList_eq]
  · cases hs
theorem eqL_run {X : Nat → Prop} {w0 : World} {ρ : Loc} (d' : Nat) (xs ys : Array Value) : ∀ (fs : List Field) (j : Nat) (ks : List Nat) (cs ds : List AV), sortsL P j fs = some ks → eqOKs ks cs ds = true →
    (∀ i v c, xs[j + i]? = some v → cs[i]? = some c → RV X w0 ρ v c) → (∀ i v c, ys[j + i]? = some v → ds[i]? = some c → RV X w0 ρ v c) → j + cs.length ≤ xs.size → j + ds.length ≤ ys.size →
    ∀ w, (Op.eqFields (d' + 1) xs ys fs).run P w = .ok (eqCs cs ds) w
  | [], j, ks, cs, ds, hs, hok, _, _, _, _ => by
    simp only [sortsL, Option.some.injEq] at hs
    subst hs
    cases cs <;> cases ds <;> simp [eqOKs] at hok
    intro w
    simp [Op.eqFields, eqCs]
  | f :: r, j, ks, cs, ds, hs, hok, hx, hy, hlx, hly => by
    simp only [sortsL] at hs
    split at hs
    · rename_i hf
      simp only [Bool.and_eq_true, bne_iff_ne, ne_eq, beq_iff_eq] at hf
      split at hs
      · rename_i s l h1 h2
        cases hs
        cases cs with
        | nil => simp [eqOKs] at hok
        | cons c cs =>
          cases ds with
          | nil => simp [eqOKs] at hok
          | cons d ds =>
            simp only [eqOKs, Bool.and_eq_true] at hok
            simp only [List.length_cons] at hlx hly
            have ex : xs[j]? = some (xs[j]'(by omega)) := Array.getElem?_eq_getElem _
            have ey : ys[j]? = some (ys[j]'(by omega)) := Array.getElem?_eq_getElem _
            obtain ⟨hp, hrun⟩ := eqC_run h1 hok.1 (hx 0 _ c ex rfl) (hy 0 _ d ey rfl)
            have ih := eqL_run d' xs ys r (j + 1) l cs ds h2 hok.2 (fun i v c h g => hx (i + 1) v c (by rw [← h]; congr 1; omega) (by simpa using g)) (fun i v c h g => hy (i + 1) v c (by rw [← h]; congr 1; omega) (by simpa using g)) (by omega) (by omega)
            intro w
            simp only [Op.eqFields, hf.1, ne_eq, not_false_eq_true, if_true, Sem.run_bind, hf.2, run_part_plain w hp ex, run_part_plain w hp ey, Result.andThen_ok, hrun d' w]
            cases h : eqC c d
            · simp [eqCs, h]
            · simpa [eqCs, h] using ih w
      · cases hs
    · cases hs
theorem eqOKs_split : ∀ (l1 l : List Nat) (cs ds : List AV), eqOKs (l1 ++ l) cs ds = true → ∃ c1 c2 d1 d2, cs = c1 ++ c2 ∧ ds = d1 ++ d2 ∧ c1.length = l1.length ∧ d1.length = l1.length ∧ eqOKs l1 c1 d1 = true ∧ eqOKs l c2 d2 = true
  | [], l, cs, ds, h => ⟨[], cs, [], ds, rfl, rfl, rfl, rfl, rfl, h⟩
  | k :: l1, l, [], ds, h => by simp [eqOKs] at h
  | k :: l1, l, c :: cs, [], h => by simp [eqOKs] at h
  | k :: l1, l, c :: cs, d :: ds, h => by
    simp only [List.cons_append, eqOKs, Bool.and_eq_true] at h
    obtain ⟨c1, c2, d1, d2, rfl, rfl, h3, h4, h5, h6⟩ := eqOKs_split l1 l cs ds h.2
    exact ⟨c :: c1, c2, d :: d1, d2, rfl, rfl, by simp [h3], by simp [h4], by simp [eqOKs, h.1, h5], h6⟩
theorem eqCs_append : ∀ (c1 d1 c2 d2 : List AV), c1.length = d1.length → eqCs (c1 ++ c2) (d1 ++ d2) = (eqCs c1 d1 && eqCs c2 d2)
  | [], [], _, _, _ => by simp [eqCs]
  | [], _ :: _, _, _, h => by simp at h
  | _ :: _, [], _, _, h => by simp at h
  | c :: c1, d :: d1, c2, d2, h => by
    simp only [List.cons_append, eqCs, eqCs_append c1 d1 c2 d2 (by simpa using h), Bool.and_assoc]
theorem run_part_struct {e : TypeId} {fs : Array Field} (hu : P.underlying e = some (.struct fs)) {xs : Array Value} {off : Nat} (w : World) : (part e xs off).run P w = .ok (.agg (xs.extract off (off + P.cellsOf e))) w := by
  obtain ⟨i, hi⟩ := info_of_underlying hu
  simp [part, isAgg, run_underlying hu, Go.run_sizeOf w hi]
theorem nest_run {X : Nat → Prop} {w0 : World} {ρ : Loc} (d' : Nat) {e : TypeId} {l1 : List Nat} (hn : nestOf P e = some l1) {xs ys : Array Value} {j : Nat} {c1 d1 : List AV} (hok : eqOKs l1 c1 d1 = true) (hc : c1.length = l1.length) (hd : d1.length = l1.length)
    (hx : ∀ i v c, xs[j + i]? = some v → c1[i]? = some c → RV X w0 ρ v c) (hy : ∀ i v c, ys[j + i]? = some v → d1[i]? = some c → RV X w0 ρ v c) (hlx : j + l1.length ≤ xs.size) (hly : j + l1.length ≤ ys.size) (w : World) :
    ∃ a b, (part e xs j).run P w = .ok a w ∧ (part e ys j).run P w = .ok b w ∧ (Op.equalIn (d' + 2) e a b).run P w = .ok (eqCs c1 d1) w := by
  unfold nestOf at hn
  split at hn
  · rename_i fs hu
    split at hn
    · cases hn
    · rename_i hsi
      split at hn
      · rename_i l hl
        split at hn
        · rename_i hce
          cases hn
          have hce : P.cellsOf e = l1.length := by simpa using hce
          have hf : P.fieldsOf e = fs := by simp [Program.fieldsOf, hu]
          have gx : ∀ (zs : Array Value), j + l1.length ≤ zs.size → ∀ i v, (zs.extract j (j + P.cellsOf e))[i]? = some v → zs[j + i]? = some v := by
            intro zs hz i v hv
            rw [Array.getElem?_extract] at hv
            split at hv
            · exact hv
            · cases hv
          refine ⟨_, _, run_part_struct hu w, run_part_struct hu w, ?_⟩
          rw [run_equalIn_struct w (d' + 1) e _ _ (by rw [hf]; exact hu) (by simpa using hsi), hf]
          exact eqL_run d' _ _ fs.toList 0 l1 c1 d1 hl hok (fun i v c g g' => hx i v c (gx xs hlx i v (by simpa using g)) g') (fun i v c g g' => hy i v c (gx ys hly i v (by simpa using g)) g')
            (by simp [hc, hce]; omega) (by simp [hd, hce]; omega) w
        · cases hn
      · cases hn
  · cases hn
theorem eqF_run {X : Nat → Prop} {w0 : World} {ρ : Loc} (d' : Nat) (xs ys : Array Value) : ∀ (fs : List Field) (j : Nat) (ks : List Nat) (cs ds : List AV), sortsF P j fs = some ks → eqOKs ks cs ds = true →
    (∀ i v c, xs[j + i]? = some v → cs[i]? = some c → RV X w0 ρ v c) → (∀ i v c, ys[j + i]? = some v → ds[i]? = some c → RV X w0 ρ v c) → j + cs.length ≤ xs.size → j + ds.length ≤ ys.size →
    ∀ w, (Op.eqFields (d' + 2) xs ys fs).run P w = .ok (eqCs cs ds) w
  | [], j, ks, cs, ds, hs, hok, _, _, _, _ => by
    simp only [sortsF, Option.some.injEq] at hs
    subst hs
    cases cs <;> cases ds <;> simp [eqOKs] at hok
    intro w
    simp [Op.eqFields, eqCs]
  | f :: r, j, ks, cs, ds, hs, hok, hx, hy, hlx, hly => by
    simp only [sortsF] at hs
    split at hs
    · rename_i hf
      simp only [Bool.and_eq_true, bne_iff_ne, ne_eq, beq_iff_eq] at hf
      split at hs
      · rename_i s h1
        split at hs
        · rename_i l h2
          cases hs
          cases cs with
          | nil => simp [eqOKs] at hok
          | cons c cs =>
            cases ds with
            | nil => simp [eqOKs] at hok
            | cons d ds =>
              simp only [eqOKs, Bool.and_eq_true] at hok
              simp only [List.length_cons] at hlx hly
              have ex : xs[j]? = some (xs[j]'(by omega)) := Array.getElem?_eq_getElem _
              have ey : ys[j]? = some (ys[j]'(by omega)) := Array.getElem?_eq_getElem _
              obtain ⟨hp, hrun⟩ := eqC_run h1 hok.1 (hx 0 _ c ex rfl) (hy 0 _ d ey rfl)
              have ih := eqF_run d' xs ys r (j + 1) l cs ds h2 hok.2 (fun i v c h g => hx (i + 1) v c (by rw [← h]; congr 1; omega) (by simpa using g)) (fun i v c h g => hy (i + 1) v c (by rw [← h]; congr 1; omega) (by simpa using g)) (by omega) (by omega)
              intro w
              simp only [Op.eqFields, hf.1, ne_eq, not_false_eq_true, if_true, Sem.run_bind, hf.2, run_part_plain w hp ex, run_part_plain w hp ey, Result.andThen_ok, hrun (d' + 1) w]
              cases h : eqC c d
              · simp [eqCs, h]
              · simpa [eqCs, h] using ih w
        · cases hs
      · split at hs
        · rename_i l1 h1
          split at hs
          · rename_i l h2
            cases hs
            obtain ⟨c1, c2, d1, d2, rfl, rfl, k1, k2, k3, k4⟩ := eqOKs_split l1 l cs ds hok
            simp only [List.length_append] at hlx hly
            have ih := eqF_run d' xs ys r (j + l1.length) l c2 d2 h2 k4
              (fun i v c h g => hx (l1.length + i) v c (by rw [← h]; congr 1; omega) (by rw [List.getElem?_append_right (by omega), ← g]; congr 1; omega))
              (fun i v c h g => hy (l1.length + i) v c (by rw [← h]; congr 1; omega) (by rw [List.getElem?_append_right (by omega), ← g]; congr 1; omega)) (by omega) (by omega)
            intro w
            obtain ⟨a, b, p1, p2, p3⟩ := nest_run (X := X) (w0 := w0) (ρ := ρ) d' h1 (xs := xs) (ys := ys) (j := j) k3 k1 k2
              (fun i v c h g => hx i v c h (by have := (List.getElem?_eq_some_iff.1 g).1; rw [List.getElem?_append_left this]; exact g))
              (fun i v c h g => hy i v c h (by have := (List.getElem?_eq_some_iff.1 g).1; rw [List.getElem?_append_left this]; exact g)) (by omega) (by omega) w
            simp only [Op.eqFields, hf.1, ne_eq, not_false_eq_true, if_true, Sem.run_bind, hf.2, p1, p2, Result.andThen_ok, p3]
            rw [eqCs_append _ _ _ _ (by omega)]
            cases h : eqCs c1 d1
            · simp
            · simpa using ih w
          · cases hs
        · cases hs
    · cases hs
theorem eqI_run {X : Nat → Prop} {w0 : World} {ρ : Loc} (d' : Nat) {e : TypeId} {s : Nat} (hs : sortOf P e = some s) (h1 : P.cellsOf e = 1) (xs ys : Array Value) : ∀ (n j : Nat) (cs ds : List AV), eqOKs (List.replicate n s) cs ds = true →
    (∀ i v c, xs[j + i]? = some v → cs[i]? = some c → RV X w0 ρ v c) → (∀ i v c, ys[j + i]? = some v → ds[i]? = some c → RV X w0 ρ v c) → j + cs.length ≤ xs.size → j + ds.length ≤ ys.size →
    ∀ w, (Op.eqItems (d' + 1) e (P.cellsOf e) xs ys (List.range' j n)).run P w = .ok (eqCs cs ds) w
  | 0, j, cs, ds, hok, _, _, _, _ => by
    cases cs <;> cases ds <;> simp [eqOKs] at hok
    intro w
    simp [Op.eqItems, eqCs]
  | n + 1, j, cs, ds, hok, hx, hy, hlx, hly => by
    cases cs with
    | nil => simp [eqOKs, List.replicate_succ] at hok
    | cons c cs =>
      cases ds with
      | nil => simp [eqOKs, List.replicate_succ] at hok
      | cons d ds =>
        simp only [List.replicate_succ, eqOKs, Bool.and_eq_true] at hok
        simp only [List.length_cons] at hlx hly
        have ex : xs[j]? = some (xs[j]'(by omega)) := Array.getElem?_eq_getElem _
        have ey : ys[j]? = some (ys[j]'(by omega)) := Array.getElem?_eq_getElem _
        obtain ⟨hp, hrun⟩ := eqC_run hs hok.1 (hx 0 _ c ex rfl) (hy 0 _ d ey rfl)
        have ih := eqI_run d' hs h1 xs ys n (j + 1) cs ds hok.2 (fun i v c h g => hx (i + 1) v c (by rw [← h]; congr 1; omega) (by simpa using g)) (fun i v c h g => hy (i + 1) v c (by rw [← h]; congr 1; omega) (by simpa using g)) (by omega) (by omega)
        rw [h1] at ih
        intro w
        rw [List.range'_succ]
        simp only [Op.eqItems, Sem.run_bind, h1, Nat.mul_one, run_part_plain w hp ex, run_part_plain w hp ey, Result.andThen_ok, hrun d' w]
        cases h : eqC c d
        · simp [eqCs, h]
        · simpa [eqCs, h] using ih w
theorem aeq_run {X : Nat → Prop} {w0 : World} {ρ : Loc} {t : TypeId} {ks : List Nat} (ht : eqOf P t = some ks) {vx vy : Value} {cs ds : List AV} (h1 : RV X w0 ρ vx (.agg cs)) (h2 : RV X w0 ρ vy (.agg ds)) (hok : eqOKs ks cs ds = true) :
    ∃ xs ys, vx = .agg xs ∧ vy = .agg ys ∧ P.eqGuardType P.depth t = false ∧ ∀ w, (Op.equalIn 10000 t (.agg xs) (.agg ys)).run P w = .ok (eqCs cs ds) w := by
  cases h1 with
  | agg _ xs _ hlx hx =>
    cases h2 with
    | agg _ ys _ hly hy =>
      unfold eqOf at ht
      split at ht
      · cases ht
      · rename_i hg
        refine ⟨xs, ys, rfl, rfl, by simpa using hg, fun w => ?_⟩
        split at ht
        · rename_i fs hu
          split at ht
          · cases ht
          · rename_i hsi
            have hf : P.fieldsOf t = fs := by simp [Program.fieldsOf, hu]
            rw [run_equalIn_struct w 9999 t xs ys (by rw [hf]; exact hu) (by simpa using hsi), hf]
            exact eqF_run 9997 xs ys fs.toList 0 ks cs ds ht hok (fun i v c g g' => hx i v c (by simpa using g) g') (fun i v c g g' => hy i v c (by simpa using g) g') (by omega) (by omega) w
        · rename_i n e hu
          split at ht
          · rename_i s hs
            split at ht
            · rename_i hc
              simp only [Bool.and_eq_true, beq_iff_eq, Option.isSome_iff_exists] at hc
              obtain ⟨hc1, i, hi⟩ := hc
              cases ht
              rw [run_equalIn_array w 9999 xs ys hu hi, List.range_eq_range']
              exact eqI_run 9998 hs hc1 xs ys n 0 cs ds hok (fun i v c g g' => hx i v c (by simpa using g) g') (fun i v c g g' => hy i v c (by simpa using g) g') (by omega) (by omega) w
            · cases ht
          · cases ht
        · cases ht
theorem RV.cells1 {X : Nat → Prop} {w : World} {ρ : Loc} {v : Value} {x : AV} (h : RV X w ρ v x) (h1 : isCell x = true) :
    v.cells.size = [x].length ∧ (∀ u ∈ v.cells.toList, u.oneCell' = true) ∧ ∀ (j : Nat) u a, v.cells.toList[j]? = some u → [x][j]? = some a → RV X w ρ u a := by
  have hone := RV.one h h1
  have hcs : v.cells = #[v] := by cases v <;> simp_all [Value.cells, Value.oneCell']
  rw [hcs]
  refine ⟨rfl, fun u hu => by simp at hu; subst hu; exact hone, fun j u a e1 e2 => ?_⟩
  cases j with
  | zero => simp at e1 e2; subst e1; subst e2; exact h
  | succ j => simp at e1
/-- the cells of a value that is to be kept -/
theorem RV.cells {X : Nat → Prop} {w : World} {ρ : Loc} {v : Value} {x : AV} (h : RV X w ρ v x) (hc : cellsOK x = true) :
    v.cells.size = (cellsOf x).length ∧ (∀ u ∈ v.cells.toList, u.oneCell' = true) ∧ ∀ (j : Nat) u a, v.cells.toList[j]? = some u → (cellsOf x)[j]? = some a → RV X w ρ u a := by
  cases x with
  | agg cs =>
    cases h with
    | agg _ vs _ hlen hrel =>
      refine ⟨hlen, fun u hu => ?_, fun j u a e1 e2 => hrel j u a (by simpa [Value.cells] using e1) e2⟩
      obtain ⟨j, hj, rfl⟩ := List.getElem_of_mem hu
      have hj' : j < cs.length := by have := hlen; simp [Value.cells] at hj; omega
      have ha : cs[j]? = some cs[j] := List.getElem?_eq_getElem hj'
      have hcj : isCell cs[j] = true := List.all_eq_true.1 hc _ (List.getElem_mem hj')
      refine RV.one (hrel j _ _ ?_ ha) hcj
      simp only [Value.cells] at hj ⊢
      rw [← Array.getElem?_toList]; exact List.getElem?_eq_getElem hj
  | undef => simp [cellsOK, cellsOf, isCell] at hc
  | tup vs => simp [cellsOK, cellsOf, isCell] at hc
  | gd b x => simp [cellsOK, cellsOf, isCell] at hc
  | clo f vs => simp [cellsOK, cellsOf, isCell] at hc
  | bool b => exact h.cells1 (by simpa [cellsOK, cellsOf] using hc)
  | int k n => exact h.cells1 (by simpa [cellsOK, cellsOf] using hc)
  | fl k n => exact h.cells1 (by simpa [cellsOK, cellsOf] using hc)
  | cx k n m => exact h.cells1 (by simpa [cellsOK, cellsOf] using hc)
  | str l => exact h.cells1 (by simpa [cellsOK, cellsOf] using hc)
  | lit l => exact h.cells1 (by simpa [cellsOK, cellsOf] using hc)
  | nilsl => exact h.cells1 (by simpa [cellsOK, cellsOf] using hc)
  | ro sz es => exact h.cells1 (by simpa [cellsOK, cellsOf] using hc)
  | elt x => exact h.cells1 (by simpa [cellsOK, cellsOf] using hc)
  | sl i o n => exact h.cells1 (by simpa [cellsOK, cellsOf] using hc)
  | ptr i o n => exact h.cells1 (by simpa [cellsOK, cellsOf] using hc)
  | vptr i o => exact h.cells1 (by simpa [cellsOK, cellsOf] using hc)
/- STRUCTS AND ARRAYS FROM THEIR PARTS -/
def matchP (place : Nat → Option (Nat × Nat)) : List (Nat × Operand) → List (Nat × Nat × AE) → Prop
  | [], [] => True
  | (i, x) :: r, (o, n, y) :: l => place i = some (o, n) ∧ y = trE x ∧ matchP place r l
  | _, _ => False
theorem bldParts_match (pl : List (Nat × Nat)) : ∀ (L : List (Nat × Operand)) (l : List (Nat × Nat × AE)), bldParts pl L = some l → matchP (pl.toArray[·]?) L l
  | [], l, h => by
    simp only [bldParts, Option.some.injEq] at h
    subst h; trivial
  | (i, x) :: r, l, h => by
    simp only [bldParts] at h
    split at h
    · rename_i o n l' h1 h2
      cases h
      exact ⟨by simpa using h1, rfl, bldParts_match pl r l' h2⟩
    · cases h
theorem bldArr_match (s : Nat) : ∀ (L : List (Nat × Operand)), matchP (fun i => some (i * s, s)) L (bldArr s L)
  | [] => trivial
  | (_, _) :: r => ⟨rfl, rfl, bldArr_match s r⟩
theorem bld_sound (h : RelAt E ρ st a w) (place : Nat → Option (Nat × Nat)) : ∀ (L : List (Nat × Operand)) (l : List (Nat × Nat × AE)) (cells : Array Value) (cs : List AV), matchP place L l → cells.size = cs.length →
    (∀ (j : Nat) v c, cells[j]? = some v → cs[j]? = some c → RV (XX E.X0 ρ st.h) w ρ v c) → bldC γ st l cs K → γ = true →
    ∃ out av, Instr.fill place cells (L.map fun q => (q.1, a.eval q.2)) = some out ∧ RV (XX E.X0 ρ st.h) w ρ (.agg out) av ∧ K av
  | [], [], cells, cs, _, hs, hr, hk, _ => ⟨cells, _, rfl, .agg _ _ cs hs hr, hk⟩
  | [], _ :: _, _, _, hm, _, _, _, _ => hm.elim
  | _ :: _, [], _, _, hm, _, _, _, _ => hm.elim
  | (i, x) :: r, (o, n, y) :: l, cells, cs, hm, hs, hr, hk, hγ => by
    obtain ⟨hp, rfl, hm⟩ := hm
    obtain ⟨av, h1, h2⟩ := evg_sound h (x := x) hk hγ
    obtain ⟨hc, hk'⟩ := h2
    obtain ⟨c1, c2, c3⟩ := hc hγ
    obtain ⟨d1, d2, d3⟩ := h1.cells c1
    have hvl : (a.eval x).cells.toList.length = n := by simp; omega
    obtain ⟨out, av', g1, g2, g3⟩ := bld_sound h place r l ((a.eval x).cells.zipIdx.foldl (fun cs (x : Value × Nat) => cs.setIfInBounds (o + x.2) x.1) cells) (cs.take o ++ cellsOf av ++ cs.drop (o + n)) hm (by
        rw [← Array.foldl_toList, Array.toList_zipIdx, zip_size]; simp; omega) (fun j v c e1 e2 => by
        rw [← Array.foldl_toList, Array.toList_zipIdx, zip_fold] at e1
        have hj : j < cs.length := by
          have := (List.getElem?_eq_some_iff.1 e2).1
          simp at this; omega
        by_cases q1 : j < o
        · rw [if_neg (by omega)] at e1
          rw [List.append_assoc, List.getElem?_append_left (by simp; omega), List.getElem?_take_of_lt q1] at e2
          exact hr j v c e1 e2
        · by_cases q2 : j < o + n
          · rw [if_pos (by omega)] at e1
            rw [List.append_assoc, List.getElem?_append_right (by simp; omega), List.getElem?_append_left (by simp; omega)] at e2
            refine d3 (j - o) v c (by simpa using e1) ?_
            rw [← e2]; congr 1; simp; omega
          · rw [if_neg (by omega)] at e1
            rw [List.getElem?_append_right (by simp; omega), List.getElem?_drop] at e2
            refine hr j v c e1 ?_
            rw [← e2]; congr 1; simp; omega) hk' hγ
    refine ⟨out, av', ?_, g2, g3⟩
    rw [List.map_cons]
    unfold Instr.fill
    simp only [hp]
    rw [if_neg (by simp only [Bool.or_eq_true, decide_eq_true_eq, not_or]; exact ⟨by simp; omega, by omega⟩)]
    exact g1
theorem isNilS_eval {y : Operand} (h : isNilS y = true) : a.eval y = .slice none 0 0 := by
  unfold isNilS at h
  split at h
  · rfl
  · cases h
theorem isNilI_eq {y : Operand} (h : isNilI y = true) : y = .const .nilIface := by
  unfold isNilI at h
  split at h
  · rfl
  · cases h
theorem inil_run {t : TypeId} {ms : Array (String × TypeId)} (ht : P.underlying t = some (.interface ms)) {v : Value} (hv : isIfV v = true) :
    (∀ w', (binOp .eql t v .nilIface).run P w' = .ok (.bool (isNilV v)) w') ∧ (∀ w', (binOp .neq t v .nilIface).run P w' = .ok (.bool (!isNilV v)) w') ∧ ∀ op x, eqGuard op t x (.const .nilIface) v .nilIface = pure () := by
  have he0 : ∀ (d' : Nat) w', (Op.equalIn (d' + 1) t v .nilIface).run P w' = .ok (isNilV v) w' := by
    intro d' w'
    cases v <;> simp [isIfV] at hv <;> simp [Op.equalIn, run_underlying ht, isNilV]
  have he : ∀ w', (Op.equalIn 10000 t v .nilIface).run P w' = .ok (isNilV v) w' := he0 9999
  refine ⟨fun w' => ?_, fun w' => ?_, fun op x => ?_⟩
  · cases v <;> simp [isIfV] at hv <;> (simp only [binOp]; simp [Op.equal, Op.maxDepth, he w'])
  · cases v <;> simp [isIfV] at hv <;> (simp only [binOp]; simp [Op.equal, Op.maxDepth, he w'])
  · cases v <;> simp [isIfV] at hv
    · exact eqGuard_at_iface _ _ _ _ _ _ _
    · cases op <;> simp [eqGuard]
theorem snil_sound (h : RelAt E ρ st a w) {t e : TypeId} (ht : P.underlying t = some (.slice e)) {v : Value} {x : AV} (hx : RV (XX E.X0 ρ st.h) w ρ v x) {neg : Bool} (hk : snilC γ st neg x K) (hγ : γ = true) :
    ∃ b, (∀ w', (binOp .eql t v (.slice none 0 0)).run P w' = .ok (.bool b) w') ∧ (∀ w', (binOp .neq t v (.slice none 0 0)).run P w' = .ok (.bool (!b)) w') ∧ K (.bool (if neg then !b else b)) ∧ (∃ A n c, v = .slice A n c) := by
  have run : ∀ (A : Option Addr) (n c : Nat), (∀ w', (binOp .eql t (.slice A n c) (.slice none 0 0)).run P w' = .ok (.bool A.isNone) w') ∧ (∀ w', (binOp .neq t (.slice A n c) (.slice none 0 0)).run P w' = .ok (.bool (!A.isNone)) w') := by
    intro A n c
    have he0 : ∀ (d' : Nat) w', (Op.equalIn (d' + 1) t (.slice A n c) (.slice none 0 0)).run P w' = .ok A.isNone w' := by
      intro d' w'
      cases A <;> simp [Op.equalIn, run_underlying ht]
    have he : ∀ w', (Op.equalIn 10000 t (.slice A n c) (.slice none 0 0)).run P w' = .ok A.isNone w' := he0 9999
    refine ⟨fun w' => ?_, fun w' => ?_⟩
    · simp only [binOp]
      simp [Op.equal, Op.maxDepth, he w']
    · simp only [binOp]
      simp [Op.equal, Op.maxDepth, he w']
  unfold snilC at hk
  split at hk
  · cases hx
    refine ⟨true, (run none 0 0).1, (run none 0 0).2, ?_, _, _, _, rfl⟩
    cases neg <;> exact hk
  · rename_i id off n
    obtain ⟨k1, k2⟩ := hk
    split at k2
    · rename_i sz es hid
      cases hx with
      | sl _ _ _ _ c L A hL h1 h2 h3 hA =>
        obtain ⟨_, hcnt, hcap, _, _, hnone⟩ := arr_cells h hid hL
        have hn := k1 hγ
        rcases hA with hA | hA
        · omega
        · cases hb : L.b with
          | none => have := hnone hb; omega
          | some b =>
            rw [hb] at hA
            subst hA
            refine ⟨false, (run _ _ _).1, (run _ _ _).2, ?_, _, _, _, rfl⟩
            cases neg <;> exact k2
    · exact k2.elim
  · rename_i sz es
    obtain ⟨k1, k2⟩ := hk
    cases hx with
    | ro _ A c _ _ vs hc hsz hlen hcell hrel =>
      obtain ⟨g1, g2⟩ := k1 hγ
      have hfl := flat_length hsz
      have : 0 < vs.length := by rw [hlen, hfl]; exact Nat.mul_pos g1 g2
      obtain ⟨ad, e1, _⟩ := hcell 0 this
      subst e1
      refine ⟨false, (run _ _ _).1, (run _ _ _).2, ?_, _, _, _, rfl⟩
      cases neg <;> exact k2
  · exact hk.elim
theorem aeq_case (h : RelAt E ρ st a w) {o : Oper} {op : BinOp} {t : TypeId} {x y : Operand} (hv : aval γ st (trEq P t op (trE x) (trE y)) K) (hγ : γ = true)
    (ho : ∀ v, (∀ w', (binOp op t (a.eval x) (a.eval y)).run P w' = .ok v w') → (∀ w', (eqGuard op t x y (a.eval x) (a.eval y)).run P w' = .ok () w') → Runs P w (execOp a.eval o) (.value v)) : OpGives P E ρ st w (execOp a.eval o) K := by
  unfold trEq at hv
  split at hv
  · rename_i ks ht
    obtain ⟨av, h1, h2⟩ := evg_sound h (x := x) hv hγ
    obtain ⟨av', h1', h2'⟩ := evg_sound h (x := y) h2 hγ
    split at h2'
    · obtain ⟨xs, ys, e1, e2, hg, hrun⟩ := aeq_run (P := P) ht h1 h1' (h2'.1 hγ)
      rename_i cs ds
      refine ⟨_, _, ho (.bool (eqCs cs ds)) (fun w' => ?_) (fun w' => ?_), .bool _ _, h2'.2⟩
      · rw [e1, e2, run_eql_struct, hrun w']; rfl
      · rw [e1, e2]; exact run_eqGuard_agg w' _ _ _ _ _ _ hg
    · exact h2'.elim
  · rename_i ks ht
    obtain ⟨av, h1, h2⟩ := evg_sound h (x := x) hv hγ
    obtain ⟨av', h1', h2'⟩ := evg_sound h (x := y) h2 hγ
    split at h2'
    · obtain ⟨xs, ys, e1, e2, hg, hrun⟩ := aeq_run (P := P) ht h1 h1' (h2'.1 hγ)
      rename_i cs ds
      refine ⟨_, _, ho (.bool (!(eqCs cs ds))) (fun w' => ?_) (fun w' => ?_), .bool _ _, h2'.2⟩
      · rw [e1, e2, run_neq_struct, hrun w']; rfl
      · rw [e1, e2]; exact run_eqGuard_agg w' _ _ _ _ _ _ hg
    · exact h2'.elim
  · exact hv.elim
theorem aval_sound (h : RelAt E ρ st a w) {o : Oper} (hv : aval γ st (trOp P o) K) (hγ : γ = true) : OpGives P E ρ st w (execOp a.eval o) K := by
  unfold trOp at hv
  split at hv
  · rename_i x ho
    obtain ⟨av, h1, h2⟩ := evg_sound h (x := x) hv hγ
    exact ⟨_, av, fun w' _ => by simp only [execOp, ho, Sem.run_pure], h1, h2⟩
  · rename_i x ho
    obtain ⟨av, h1, h2⟩ := evg_sound h (x := x) hv hγ
    exact ⟨_, av, fun w' _ => by simp only [execOp, ho, Sem.run_pure], h1, h2⟩
  · rename_i c x y ho
    obtain ⟨av, h1, h2⟩ := evg_sound h (x := c) hv hγ
    split at h2
    · rename_i β
      have hc := RV.bool_of h1
      obtain ⟨av, g1, g2⟩ := pick_sound h hc h2 hγ
      exact ⟨_, av, fun w' _ => by simp only [execOp, ho, hc, asBool, Sem.run_bind, Sem.run_pure, Result.andThen_ok], g1, g2⟩
    · exact h2.elim
  · rename_i op t x y u ho
    have run : ∀ v, Runs P w (binOp op t (a.eval x) (a.eval y)) v → (∀ p q, eqGuard op t p q (a.eval x) (a.eval y) = pure ()) → Runs P w (execOp a.eval o) (.value v) := by
      intro v h1 h2 w' hs
      simp [execOp, ho, h2, h1 w' hs]
    split at hv
    · rename_i hu
      obtain ⟨av, h1, h2⟩ := evg_sound h (x := x) hv hγ
      obtain ⟨av', h1', h2'⟩ := evg_sound h (x := y) h2 hγ
      split at h2'
      · rename_i p q
        have e1 := RV.bool_of h1
        have e2 := RV.bool_of h1'
        exact ⟨_, _, run (.bool (p == q)) (by rw [e1, e2]; exact fun _ _ => run_eql_bool hu p q) (fun _ _ => by rw [e1]; exact eqGuard_at_bool _ _ _ _ _ _), .bool _ _, h2'⟩
      · exact h2'.elim
    · rename_i hu
      obtain ⟨av, h1, h2⟩ := evg_sound h (x := x) hv hγ
      obtain ⟨av', h1', h2'⟩ := evg_sound h (x := y) h2 hγ
      split at h2'
      · rename_i p q
        have e1 := RV.bool_of h1
        have e2 := RV.bool_of h1'
        exact ⟨_, _, run (.bool (!(p == q))) (by rw [e1, e2]; exact fun _ _ => run_neq_bool hu p q) (fun _ _ => by rw [e1]; exact eqGuard_at_bool _ _ _ _ _ _), .bool _ _, h2'⟩
      · exact h2'.elim
    · exact hv.elim
    · rename_i e hu
      split at hv
      · rename_i hnl
        obtain ⟨av, h1, h2⟩ := evg_sound h (x := x) hv hγ
        obtain ⟨b, r1, _, r3, A, n, c, rfl'⟩ := snil_sound (P := P) h hu h1 h2 hγ
        have ey := isNilS_eval (a := a) hnl
        exact ⟨_, _, run (.bool b) (by rw [ey]; exact fun w' _ => r1 w') (fun p q => by rw [rfl']; cases c <;> rfl), .bool _ _, r3⟩
      · exact hv.elim
    · rename_i e hu
      split at hv
      · rename_i hnl
        obtain ⟨av, h1, h2⟩ := evg_sound h (x := x) hv hγ
        obtain ⟨b, _, r2, r3, A, n, c, rfl'⟩ := snil_sound (P := P) h hu h1 h2 hγ
        have ey := isNilS_eval (a := a) hnl
        exact ⟨_, _, run (.bool (!b)) (by rw [ey]; exact fun w' _ => r2 w') (fun p q => by rw [rfl']; cases c <;> rfl), .bool _ _, r3⟩
      · exact hv.elim
    · rename_i ms hu
      split at hv
      · rename_i hnl
        obtain ⟨av, h1, h2⟩ := evg_sound h (x := x) hv hγ
        unfold inilC at h2
        split at h2
        · rename_i v
          obtain ⟨k1, k2⟩ := h2
          obtain rfl := isNilI_eq hnl
          obtain ⟨r1, r2, r3⟩ := inil_run (P := P) hu (k1 hγ)
          have hx : a.eval x = v := by
            generalize a.eval x = z at h1
            cases h1; rfl
          refine ⟨.bool (isNilV v), _, fun w' _ => ?_, .bool _ _, k2⟩
          simp only [execOp, ho, hx]
          simp [Act.eval, r3, r1 w']
        · exact h2.elim
      · exact hv.elim
    · rename_i ms hu
      split at hv
      · rename_i hnl
        obtain ⟨av, h1, h2⟩ := evg_sound h (x := x) hv hγ
        unfold inilC at h2
        split at h2
        · rename_i v
          obtain ⟨k1, k2⟩ := h2
          obtain rfl := isNilI_eq hnl
          obtain ⟨r1, r2, r3⟩ := inil_run (P := P) hu (k1 hγ)
          have hx : a.eval x = v := by
            generalize a.eval x = z at h1
            cases h1; rfl
          refine ⟨.bool (!isNilV v), _, fun w' _ => ?_, .bool _ _, k2⟩
          simp only [execOp, ho, hx]
          simp [Act.eval, r3, r2 w']
        · exact h2.elim
      · exact hv.elim
    · exact aeq_case h hv hγ (fun v h1 h2 w' _ => by simp [execOp, ho, h2, h1 w'])
    · exact aeq_case h hv hγ (fun v h1 h2 w' _ => by simp [execOp, ho, h2, h1 w'])
    · obtain ⟨av, h1, h2⟩ := evg_sound h (x := x) hv hγ
      obtain ⟨av', h1', h2'⟩ := evg_sound h (x := y) h2 hγ
      obtain ⟨⟨v, r, g1, g2, g3⟩, g4⟩ := abin_sound (P := P) (t := t) h1 h1' h2' hγ
      exact ⟨v, r, run v g1 g4, g2, g3⟩
  · rename_i op t x ho
    obtain ⟨av, h1, h2⟩ := evg_sound h (x := x) hv hγ
    unfold avalUn at h2
    split at h2
    · refine ⟨_, _, fun w' _ => ?_, .bool _ _, h2⟩
      simp [execOp, ho, RV.bool_of h1, Op.unary]
    · refine ⟨_, _, fun w' _ => ?_, .int _ _ _, h2⟩
      simp [execOp, ho, RV.int_of h1, Op.unary, Op.intArith]
    · rename_i k n
      refine ⟨.int k (bits .xor k (if k.signed then -1 else k.max) n), _, fun w' _ => ?_, .int _ _ _, h2⟩
      simp only [execOp, ho, RV.int_of h1, Op.unary, intBits_xor, Sem.run_bind, Sem.run_pure, Result.andThen_ok]
    · exact h2.elim
  · rename_i s d x ho
    obtain ⟨v, av, h1, h2, h3⟩ := conv_sound (P := P) h hv hγ
    exact ⟨v, av, fun w' hs => by simp [execOp, ho, h1 w' hs], h2, h3⟩
  · rename_i x ho
    obtain ⟨av, h1, h2⟩ := evg_sound h (x := x) hv hγ
    split at h2
    · generalize hx : a.eval x = v at *
      have h1' := h1
      cases h1
      exact ⟨_, _, fun w' _ => by simp [execOp, ho, hx], h1', h2⟩
    · generalize hx : a.eval x = v at *
      have h1' := h1
      cases h1
      exact ⟨_, _, fun w' _ => by simp [execOp, ho, hx], h1', h2⟩
    · generalize hx : a.eval x = v at *
      have h1' := h1
      cases h1
      exact ⟨_, _, fun w' _ => by simp [execOp, ho, hx], h1', h2⟩
    · exact h2.elim
  · rename_i x i ho
    obtain ⟨av, h1, h2⟩ := evg_sound h (x := x) hv hγ
    split at h2
    · rename_i vs
      obtain ⟨hi, h3⟩ := h2
      generalize hx : a.eval x = v at *
      cases h1 with
      | tup _ arr _ hlen hrel =>
        have ha : arr[i]? = some (arr[i]'(by omega)) := Array.getElem?_eq_getElem _
        refine ⟨arr[i]'(by omega), _, fun w' _ => ?_, hrel i _ _ ha ?_, h3⟩
        · simp [execOp, ho, hx, Instr.extract, ha]
        · rw [List.getD_eq_getElem?_getD, List.getElem?_eq_getElem hi]; rfl
    · exact h2.elim
  · rename_i t x i ho
    split at hv
    · rename_i e hu
      split at hv
      · rename_i s hs
        obtain ⟨av, h1, h2⟩ := evg_sound h (x := x) hv hγ
        obtain ⟨av', h1', h2'⟩ := evg_sound h (x := i) h2 hγ
        obtain ⟨v, r, g1, g2, g3⟩ := avalIdx_sound (P := P) h hu hs h1 h1' h2' hγ
        exact ⟨v, r, fun w' hs => by simp [execOp, ho, g1 w' hs], g2, g3⟩
      · exact hv.elim
    · rename_i len e hu
      split at hv
      · rename_i s hs
        obtain ⟨av, h1, h2⟩ := evg_sound h (x := x) hv hγ
        obtain ⟨av', h1', h2'⟩ := evg_sound h (x := i) h2 hγ
        split at h2'
        · rename_i id f k n
          obtain ⟨q0, q1⟩ := h2'.1 hγ
          generalize hx : a.eval x = v at *
          cases h1 with
          | vptr _ _ _ L b hL hb =>
            refine ⟨.pointer (some ⟨b, L.o + (f + n.toNat * s), none⟩), _, fun w' _ => ?_, .vptr _ _ _ L b hL hb, h2'.2⟩
            simp [execOp, ho, hx, RV.int_of h1', Instr.indexAt, Instr.sureAddr, asIntOf, run_underlying hu, q0, q1, run_sizeOf hs, Addr.add_lit, Nat.add_assoc]
        · exact h2'.elim
      · exact hv.elim
    · exact hv.elim
  · rename_i t x i ho
    split at hv
    · rename_i hu
      obtain ⟨av, h1, h2⟩ := evg_sound h (x := x) hv hγ
      obtain ⟨av', h1', h2'⟩ := evg_sound h (x := i) h2 hγ
      split at h2'
      · rename_i l k n
        obtain ⟨q0, q1⟩ := h2'.1 hγ
        refine ⟨.int .u8 (l.getD n.toNat 0).toNat, _, fun w' _ => ?_, .int _ _ _, h2'.2⟩
        simp [execOp, ho, RV.str_of h1, RV.int_of h1', Instr.index, asIntOf, run_underlying hu, q0, ba_get l n.toNat (by omega)]
      · exact h2'.elim
    · rename_i len e hu
      split at hv
      · rename_i ha hn
        obtain ⟨av, h1, h2⟩ := evg_sound h (x := x) hv hγ
        obtain ⟨av', h1', h2'⟩ := evg_sound h (x := i) h2 hγ
        split at h2'
        · rename_i cs k n
          obtain ⟨q0, q1, q2⟩ := h2'.1 hγ
          generalize hx : a.eval x = v at *
          cases h1 with
          | agg _ arr _ hlen hrel =>
            have hlt : n.toNat < arr.size := by omega
            have hA : arr[n.toNat]? = some arr[n.toNat] := Array.getElem?_eq_getElem hlt
            refine ⟨arr[n.toNat], _, fun w' _ => ?_, hrel _ _ _ hA ?_, h2'.2⟩
            · simp [execOp, ho, hx, RV.int_of h1', Instr.index, asIntOf, run_underlying hu, q0, q1, run_sizeOf hn, part, run_isAgg ha, hA]
            · rw [List.getD_eq_getElem?_getD, List.getElem?_eq_getElem (by omega)]; rfl
        · exact h2'.elim
      · exact hv.elim
    · exact hv.elim
  · rename_i t x ho
    split at hv
    · rename_i ag n ha hn
      obtain ⟨av, h1, h2⟩ := evg_sound h (x := x) hv hγ
      obtain ⟨v, r, g1, g2, g3⟩ := avalLd_sound (P := P) h ha hn h1 h2 hγ
      exact ⟨v, r, fun w' hs => by simp [execOp, ho, g1 w' hs], g2, g3⟩
    · exact hv.elim
  · split at hv <;> exact hv.elim
  · rename_i t x lo hi mx ho
    split at hv
    · rename_i hu
      obtain ⟨av, h1, h2⟩ := evg_sound h (x := x) hv hγ
      split at h2
      · rename_i s
        obtain ⟨l, m, q1, q2, q3, q4⟩ := bnd_sound (P := P) h h2 hγ
        refine ⟨.string ⟨((s.drop l).take (m - l)).toArray⟩, _, fun w' _ => ?_, .str _ _, q4⟩
        have q3' := q3 w' false s.length (Nat.le_refl _)
        simp only [execOp, ho, RV.str_of h1, Instr.sliceAt, Instr.slice, Sem.run_bind, run_underlying hu, Result.andThen_ok, Option.map_none, Option.isSome_none, Bool.false_eq_true, if_false, ba_size, q3', Sem.run_pure, ba_extract]
      · exact h2.elim
    · rename_i e hu
      split at hv
      · rename_i s hs
        obtain ⟨av, h1, h2⟩ := evg_sound h (x := x) hv hγ
        obtain ⟨v, r, g1, g2, g3⟩ := avalSlc_sound (P := P) h hu hs h1 h2 hγ
        exact ⟨v, r, fun w' hs => by simp [execOp, ho, g1 w' hs], g2, g3⟩
      · exact hv.elim
    · exact hv.elim
  · rename_i t x f ho
    split at hv
    · rename_i fs hu
      split at hv
      · rename_i fl hf
        split at hv
        · rename_i ag n ha hn
          split at hv
          · exact hv.elim
          · split at hv
            · exact hv.elim
            · rename_i hn0 _
              obtain ⟨av, h1, h2⟩ := evg_sound h (x := x) hv hγ
              obtain ⟨v, r, g1, g2, g3⟩ := avalFldA_sound (P := P) h hu hf hn hn0 h1 h2 hγ
              exact ⟨v, r, fun w' hs => by simp [execOp, ho, g1 w' hs], g2, g3⟩
        · exact hv.elim
      · exact hv.elim
    · exact hv.elim
  · rename_i t x f ho
    split at hv
    · rename_i fs hu
      split at hv
      · rename_i fl hf
        split at hv
        · rename_i ag n ha hn
          split at hv
          · exact hv.elim
          · obtain ⟨av, h1, h2⟩ := evg_sound h (x := x) hv hγ
            split at h2
            · rename_i cs
              obtain ⟨q1, q2, q3⟩ := h2
              have q1 := q1 hγ
              generalize hx : a.eval x = v at *
              cases h1 with
              | agg _ arr _ hlen hrel =>
                cases ag with
                | true =>
                  refine ⟨.agg (arr.extract fl.offset (fl.offset + n)), _, fun w' _ => ?_, .agg _ _ ((cs.drop fl.offset).take n) (by simp; omega) (fun j v a e1 e2 => ?_), q3⟩
                  · simp [execOp, ho, hx, Instr.field, run_underlying hu, hf, asAgg, part, run_isAgg ha, run_sizeOf hn]
                  · rw [Array.getElem?_extract] at e1
                    split at e1
                    · rename_i hj
                      rw [List.getElem?_take, if_pos (by omega), List.getElem?_drop] at e2
                      exact hrel _ v a e1 e2
                    · cases e1
                | false =>
                  have hlt : fl.offset < arr.size := by omega
                  have hA : arr[fl.offset]? = some arr[fl.offset] := Array.getElem?_eq_getElem hlt
                  refine ⟨arr[fl.offset], _, fun w' _ => ?_, hrel _ _ _ hA ?_, q3⟩
                  · simp [execOp, ho, hx, Instr.field, run_underlying hu, hf, asAgg, part, run_isAgg ha, hA]
                  · rw [List.getD_eq_getElem?_getD, List.getElem?_eq_getElem (by omega)]; rfl
            · exact h2.elim
        · exact hv.elim
      · exact hv.elim
    · exact hv.elim
  · split at hv <;> exact hv.elim
  · split at hv <;> exact hv.elim
  · split at hv
    · split at hv
      · split at hv <;> exact hv.elim
      · exact hv.elim
    · exact hv.elim
  · rename_i c ho
    exact call_val_sound h ho hv hγ
  · rename_i t parts ho
    split at hv
    · rename_i fs hu
      split at hv
      · rename_i z pl hz hpl
        split at hv
        · rename_i l hl
          unfold zeroCells at hz
          split at hz
          · rename_i i hi
            split at hz
            · rename_i z0 hz0
              obtain rfl := Option.some.inj hz
              obtain ⟨out, av, g1, g2, g3⟩ := bld_sound h (pl.toArray[·]?) parts.toList l z0.cells (z0.cells.toList.map constC) (bldParts_match pl _ l hl) (by simp) (fun j v c e1 e2 => by
                rw [List.getElem?_map, Array.getElem?_toList, e1] at e2
                simp at e2
                subst e2
                exact RV.constC v) hv hγ
              have hb : P.built t (parts.map fun (i, x) => (i, a.eval x)).toList = some out := by
                rw [Array.toList_map]
                unfold Program.built
                simp only [hi, hu, hz0, hpl]
                exact g1
              refine ⟨.agg out, av, fun w' _ => ?_, g2, g3⟩
              simp only [execOp, ho]
              have hr := run_build w' t _ _ hb
              simp only [Sem.run_bind]
              rw [hr]
              rfl
            · cases hz
          · cases hz
        · exact hv.elim
      · exact hv.elim
    · rename_i n e hu
      split at hv
      · rename_i z s hz hs
        unfold zeroCells at hz
        split at hz
        · rename_i i hi
          split at hz
          · rename_i z0 hz0
            obtain rfl := Option.some.inj hz
            obtain ⟨ie, hie, hisz⟩ := szOf_info hs
            obtain ⟨out, av, g1, g2, g3⟩ := bld_sound h (fun i => some (i * s, s)) parts.toList (bldArr s parts.toList) z0.cells (z0.cells.toList.map constC) (bldArr_match s _) (by simp) (fun j v c e1 e2 => by
              rw [List.getElem?_map, Array.getElem?_toList, e1] at e2
              simp at e2
              subst e2
              exact RV.constC v) hv hγ
            have hb : P.built t (parts.map fun (i, x) => (i, a.eval x)).toList = some out := by
              rw [Array.toList_map]
              unfold Program.built
              simp only [hi, hu, hz0, hie, hisz]
              exact g1
            refine ⟨.agg out, av, fun w' _ => ?_, g2, g3⟩
            simp only [execOp, ho]
            have hr := run_build w' t _ _ hb
            simp only [Sem.run_bind]
            rw [hr]
            rfl
          · cases hz
        · cases hz
      · exact hv.elim
    · exact hv.elim
  · rename_i t x ho
    split at hv
    · exact hv.elim
    · rename_i d hne hu
      obtain ⟨av, h1, h2⟩ := evg_sound h (x := x) hv hγ
      split at h2
      · generalize hx : a.eval x = v at *
        cases h1 with
        | agg _ arr _ hlen hrel =>
          obtain rfl : arr = #[] := Array.eq_empty_of_size_eq_zero (by simpa using hlen)
          refine ⟨_, _, fun w' _ => ?_, .lit _ _, h2⟩
          simp only [execOp, ho, hx, Instr.makeInterface]
          cases d <;> first | (exact (hne _ rfl).elim) | simp [run_underlying hu]
      · exact h2.elim
    · exact hv.elim
  · rename_i f first cap ho
    split at hv
    · rename_i hfe
      obtain ⟨_, h2⟩ := hv
      obtain rfl : first = #[] := by simpa using hfe
      refine ⟨.func (.func f) #[] (cap.map a.eval), _, fun w' _ => ?_, .clo _ _ _ _ (by simp) (fun j v x e1 e2 => ?_), h2⟩
      · simp [execOp, ho, Instr.makeFunc]
      · rw [Array.getElem?_map] at e1
        obtain ⟨y, g1, rfl⟩ := Option.map_eq_some_iff.1 e1
        rw [List.map_map, List.getElem?_map, Array.getElem?_toList, g1] at e2
        simp at e2
        subst e2
        exact evalRV h y
    · exact hv.elim
  · exact hv.elim
  · exact hv.elim
end
end Go.Proofs.YtgkcbhdpenmogaaDoor.Eng
