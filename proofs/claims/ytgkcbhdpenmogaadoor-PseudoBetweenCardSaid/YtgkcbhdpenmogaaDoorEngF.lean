/- The engine, part F: effects. -/
import Derived.Test.YtgkcbhdpenmogaaDoorEngE
set_option linter.all false
namespace Go.Proofs.YtgkcbhdpenmogaaDoor.Eng

def ub (b : UInt8) : AV := .int .u8 b.toNat
def sput (st : St) (d : Nat) (v : AV) : St := ⟨(d, v) :: st.s, st.h⟩
/-- the elements that append takes -/
def srcE (sz : Nat) (st : St) (x : AV) : Option (List AV) :=
  match x with
  | .str l => if sz = 1 then some (l.map ub) else none
  | x => slE sz st x
def effApp (d : Nat) (st : St) (sz bytes : Nat) (s x : AV) (K : AV → St → Prop) : Prop :=
  match srcE sz st x with
  | some xs => xs.all cellsOK = true ∧ match s with
    | .nilsl => xs.length * bytes ≤ 140737488355328 ∧ xs.length ≤ 9223372036854775807 ∧ K (.sl d 0 xs.length) (newW st d (.arr sz xs))
    | .sl id off n => match hget st.h id with
      | some (.arr sz' es) => sz' = sz ∧ (sub3 es off n).all cellsOK = true ∧ (n + xs.length) * bytes ≤ 140737488355328 ∧ n + xs.length ≤ 9223372036854775807 ∧ K (.sl id 0 (n + xs.length)) (newW st id (.arr sz (sub3 es off n ++ xs)))
      | _ => False
    | _ => False
  | none => False
def setEl (e : AV) (f : Nat) (v : AV) : AV := if f = 0 ∧ (cellsOf v).length = (cellsOf e).length then v else .agg (seg (cellsOf e) f (cellsOf v))
def effSt (st : St) (n : Nat) (x v : AV) (K : AV → St → Prop) : Prop :=
  match x with
  | .ptr id i f => keepV st v fun v st => (cellsOf v).length = n ∧ 0 < n ∧ match hget st.h id with
    | some (.arr sz es) => f + n ≤ sz ∧ K .undef ⟨st.s, hset st.h id (.arr sz (es.set i (setEl (nth es i) f v)))⟩
    | _ => False
  | .vptr id f => cellsOK v = true ∧ (cellsOf v).length = n ∧ match hget st.h id with
    | some (.var cs) => f + n ≤ cs.length ∧ K .undef ⟨st.s, hset st.h id (.var (seg cs f (cellsOf v)))⟩
    | _ => False
  | _ => False
def eff (d : Nat) (st : St) (o : AO) (K : AV → St → Prop) : Prop :=
  match o with
  | .alloc z => z.all noRefC = true ∧ K (.vptr d 0) (newW st d (.var (z.map (killC d))))
  | .box n x => cellsOK (ev st x) = true ∧ (cellsOf (ev st x)).length = n ∧ K (.vptr d 0) (newW st d (.var ((cellsOf (ev st x)).map (killC d))))
  | .bsl sz xs => keepL st xs fun es st' => es.all (fun e => (cellsOf e).length == sz) = true ∧ K (.sl d 0 es.length) (newW st' d (.arr sz es))
  | .app sz bytes s x => effApp d st sz bytes (ev st s) (ev st x) K
  | .st n x v => effSt st n (ev st x) (ev st v) K
  | .stb x => match ev st x with
    | .str l => K (.sl d 0 l.length) (newW st d (.arr 1 (l.map ub)))
    | _ => False
  | _ => False

section
variable {P : Program} {E : Env} {ρ : Loc} {st : St} {a : Act} {w : World} {K : AV → St → Prop}
def OpEff (P : Program) (E : Env) (a : Act) (w : World) (s : Sem Next) (q : Bool) (K : AV → St → Prop) : Prop :=
  ∃ nx v w' ρ' st' av, s.run P w = .ok nx w' ∧ (nx = .value v ∨ (nx = .skip ∧ v = undef)) ∧ RelAt E ρ' st' a w' ∧ RV (XX E.X0 ρ' st'.h) w' ρ' v av ∧ K av st' ∧ (q = true → Same w w')

theorem newW_h (st : St) (d : Nat) (W : Win) : hget (newW st d W).h d = some W := by simp [newW, hget_hset]
theorem upd_at (ρ : Loc) (d : Nat) (L : LW) : upd ρ d L d = some L := by simp [upd]

theorem zeroCells_some {t : TypeId} {z : List AV} (h : zeroCells P t = some z) : ∃ i v, P.info? t = some i ∧ i.zero = some v ∧ z = v.cells.toList.map constC := by
  unfold zeroCells at h
  split at h
  · rename_i i hi
    split at h
    · rename_i v hv; exact ⟨i, v, hi, hv, (Option.some.inj h).symm⟩
    · cases h
  · cases h
theorem alloc_sound (h : RelAt E ρ st a w) (d : Nat) {t : TypeId} {z : List AV} (hz : zeroCells P t = some z) (hn : z.all noRefC = true) (hk : K (.vptr d 0) (newW st d (.var (z.map (killC d))))) :
    ∃ v w' ρ' st' av, (Instr.alloc t true (.tuple #[])).run P w = .ok v w' ∧ RelAt E ρ' st' a w' ∧ RV (XX E.X0 ρ' st'.h) w' ρ' v av ∧ K av st' ∧ Same w w' := by
  obtain ⟨i, v, h1, h2, rfl⟩ := zeroCells_some hz
  refine ⟨.pointer (some ⟨w.heap.size, 0, none⟩), w.alloc (.cells v.cells t), _, _, .vptr d 0, ?_, new_var h d (v.cells.toList.map constC) v.cells t (w.alloc (.cells v.cells t)) (Same.alloc _ _) (heap_alloc_new _ _) (by simp) (fun j u x e1 e2 => ?_), ?_, hk, Same.alloc _ _⟩
  · simp [Instr.alloc, zeroValue, typeInfo, h1, h2, newVar, newRow]
  · rw [List.getElem?_map, Array.getElem?_toList, e1] at e2
    simp at e2
    subst e2
    exact RV.constC _
  · have := RV.vptr (X := XX E.X0 (upd ρ d ⟨some w.heap.size, 0, (v.cells.toList.map constC).length, 1, 1⟩) (newW st d (.var ((v.cells.toList.map constC).map (killC d)))).h) (w := w.alloc (.cells v.cells t)) (upd ρ d ⟨some w.heap.size, 0, (v.cells.toList.map constC).length, 1, 1⟩) d 0 _ w.heap.size (upd_at _ _ _) rfl
    exact this
theorem box_sound (h : RelAt E ρ st a w) (d : Nat) {t : TypeId} {v : Value} {x : AV} (hx : RV (XX E.X0 ρ st.h) w ρ v x) (hc : cellsOK x = true) (hk : K (.vptr d 0) (newW st d (.var ((cellsOf x).map (killC d))))) :
    ∃ v' w' ρ' st' av, (Instr.box t v).run P w = .ok v' w' ∧ RelAt E ρ' st' a w' ∧ RV (XX E.X0 ρ' st'.h) w' ρ' v' av ∧ K av st' ∧ Same w w' := by
  obtain ⟨h1, h2, h3⟩ := hx.cells hc
  refine ⟨.pointer (some ⟨w.heap.size, 0, none⟩), w.alloc (.cells v.cells t), _, _, .vptr d 0, ?_, new_var h d (cellsOf x) v.cells t (w.alloc (.cells v.cells t)) (Same.alloc _ _) (heap_alloc_new _ _) h1 (fun j u y e1 e2 => h3 j u y (by simpa using e1) e2), ?_, hk, Same.alloc _ _⟩
  · simp [Instr.box, newVar, newRow]
  · exact RV.vptr _ d 0 _ w.heap.size (upd_at _ _ _) rfl

theorem flatMap_get {sz : Nat} : ∀ {vs : List Value} {es : List AV}, vs.length = es.length → (∀ (j : Nat) v e, vs[j]? = some v → es[j]? = some e → v.cells.size = sz ∧ (cellsOf e).length = sz) →
    ∀ (j : Nat) u x, (vs.flatMap fun v => v.cells.toList)[j]? = some u → (flat es)[j]? = some x → ∃ (i k : Nat) (v : Value) (e : AV), vs[i]? = some v ∧ es[i]? = some e ∧ v.cells.toList[k]? = some u ∧ (cellsOf e)[k]? = some x
  | [], [], _, _, j, u, x, e1, _ => by simp at e1
  | [], e :: r, hl, _, _, _, _, _, _ => by simp at hl
  | v :: r, [], hl, _, _, _, _, _, _ => by simp at hl
  | v :: r, e :: r', hl, hs, j, u, x, e1, e2 => by
    obtain ⟨h1, h2⟩ := hs 0 v e rfl rfl
    have f1 : ((v :: r).flatMap fun v => v.cells.toList) = v.cells.toList ++ r.flatMap fun v => v.cells.toList := by simp
    have f2 : flat (e :: r') = cellsOf e ++ flat r' := by simp [flat]
    rw [f1] at e1
    rw [f2] at e2
    have hvl : v.cells.toList.length = sz := by simpa using h1
    by_cases hj : j < sz
    · rw [List.getElem?_append_left (by omega)] at e1 e2
      exact ⟨0, j, v, e, rfl, rfl, e1, e2⟩
    · rw [List.getElem?_append_right (by omega)] at e1 e2
      rw [hvl] at e1
      rw [h2] at e2
      obtain ⟨i, k, v', e', g1, g2, g3, g4⟩ := flatMap_get (vs := r) (es := r') (by simpa using hl) (fun j v e a1 a2 => hs (j + 1) v e a1 a2) (j - sz) u x e1 e2
      exact ⟨i + 1, k, v', e', g1, g2, g3, g4⟩

theorem bsl_sound (h : RelAt E ρ st a w) (d : Nat) {t e : TypeId} {sz len : Nat} {parts : List (Nat × Operand)} (ht : P.underlying t = some (.slice e)) (hs : szOf P e = some sz) {z : List AV} (hz : zeroCells P e = some z)
    (hzl : z.length = sz) (hp : parts.map (·.1) = List.range len) (hbig : len * sz ≤ 2 ^ 24)
    (hk : keepL st (parts.map fun q => trE q.2) fun es st' => es.all (fun e => (cellsOf e).length == sz) = true ∧ K (.sl d 0 es.length) (newW st' d (.arr sz es))) :
    ∃ v' w' ρ' st' av, (Instr.buildSlice t len ((parts.map fun q => (q.1, a.eval q.2)).toArray)).run P w = .ok v' w' ∧ RelAt E ρ' st' a w' ∧ RV (XX E.X0 ρ' st'.h) w' ρ' v' av ∧ K av st' ∧ Same w w' := by
  have hmap : (parts.map fun q => trE q.2) = (parts.map (·.2)).map trE := by simp
  rw [hmap] at hk
  obtain ⟨es, st', h1, h2, h3, h4, h5, h6⟩ := keepL_sound (parts.map (·.2)) _ h hk
  have hpl : parts.length = len := by have := congrArg List.length hp; simpa using this
  have hel : es.length = len := by rw [h3]; simpa using hpl
  obtain ⟨i, zv, hi, hzv, hzz⟩ := zeroCells_some hz
  have hzs : zv.cells.size = sz := by rw [hzz] at hzl; simpa using hzl
  have hesz : ∀ e ∈ es, (cellsOf e).length = sz := fun e he => by simpa using List.all_eq_true.1 h5 e he
  let vals : List Value := parts.map fun q => a.eval q.2
  have hval : ∀ (j : Nat) v e, vals[j]? = some v → es[j]? = some e → RV (XX E.X0 ρ st'.h) w ρ v e ∧ noRef e = true ∧ cellsOK e = true := by
    intro j v e e1 e2
    simp only [vals, List.getElem?_map, Option.map_eq_some_iff] at e1
    obtain ⟨q, e3, rfl⟩ := e1
    exact h4 j q.2 e (by simp [e3]) e2
  have hcell : ∀ (j : Nat) v e, vals[j]? = some v → es[j]? = some e → v.cells.size = sz ∧ (cellsOf e).length = sz := by
    intro j v e e1 e2
    obtain ⟨g1, g2, g3⟩ := hval j v e e1 e2
    have he : e ∈ es := List.mem_of_getElem? e2
    exact ⟨by rw [(g1.cells g3).1]; exact hesz e he, hesz e he⟩
  let zs : Array Value := (Array.range (len * sz)).map ((if len * sz = 0 then #[] else zv.cells)[· % (if len * sz = 0 then #[] else zv.cells).size]!)
  obtain ⟨out, o1, o2, o3⟩ := fill_all sz (parts.map fun q => (q.1, a.eval q.2)) 0 zs (by simp only [List.map_map, List.length_map, hpl]; rw [← List.range_eq_range', ← hp]; rfl)
    (fun q hq => by
      obtain ⟨j, hj, rfl⟩ := List.getElem_of_mem hq
      have hj' : j < parts.length := by simpa using hj
      have e1 : vals[j]? = some (a.eval parts[j].2) := by simp [vals, hj']
      have e2 : es[j]? = some (es[j]'(by omega)) := List.getElem?_eq_getElem _
      simpa using (hcell j _ _ e1 e2).1)
    (by simp [zs, hpl])
  have hos : out.size = len * sz := by rw [o2]; simp [zs]
  have hfm : ((parts.map fun q => (q.1, a.eval q.2)).flatMap fun q => q.2.cells.toList) = vals.flatMap fun v => v.cells.toList := by
    simp only [vals, List.flatMap_map]
  refine ⟨.slice (some ⟨w.heap.size, 0, none⟩) es.length len, w.alloc (.cells out e), _, _, .sl d 0 es.length, ?_, new_arr h1 d sz es out e (0, 0) (w.alloc (.cells out e)) len (Same.alloc _ _) (heap_alloc_new _ _) (fun j _ hj => by simp at hj) hesz (by omega) (by omega) (fun j v x e1 e2 => ?_), ?_, h6, Same.alloc _ _⟩
  · rw [hel]
    have hb : ¬ (len * sz > 2 ^ 24) := by omega
    have hfill : Instr.fill (fun i => some (i * sz, sz)) zs (parts.map fun q => (q.1, a.eval q.2)) = some out := o1
    by_cases h0 : len * sz = 0
    · have hz0 : zs = #[] := by simp [zs, h0]
      rw [hz0] at hfill
      simp [Instr.buildSlice, run_underlying ht, run_sizeOf hs, h0, hfill, newRow, Array.range_zero']
    · simp only [zs, h0, if_false] at hfill
      simp [Instr.buildSlice, run_underlying ht, run_sizeOf hs, h0, zeroValue, typeInfo, hi, hzv, hfill, newRow]
      omega
  · have hj : j < len * sz := by
      have := (Array.getElem?_eq_some_iff.1 e1).1
      omega
    rw [o3 j] at e1
    have hl2 : (0 + (parts.map fun q => (q.1, a.eval q.2)).length) * sz = len * sz := by simp [hpl]
    rw [if_pos (by rw [hl2]; omega), hfm] at e1
    simp only [Nat.zero_mul, Nat.sub_zero] at e1
    obtain ⟨i', k', v', e', g1, g2, g3, g4⟩ := flatMap_get (vs := vals) (es := es) (by simp [vals, hpl, hel]) hcell j v x e1 e2
    obtain ⟨q1, q2, q3⟩ := hval i' v' e' g1 g2
    exact ((q1.cells q3).2.2 k' v x g3 g4).toNo (noRef_cells q2 x (List.mem_of_getElem? g4)) noLoc
  · exact .sl _ d 0 es.length len ⟨some w.heap.size, 0, sz, es.length, len⟩ (some ⟨w.heap.size, 0, none⟩) (upd_at _ _ _) (by simp) (by omega) (by simp) (.inr (by simp))

/- APPEND -/
theorem map_ub_get (l : List UInt8) : (l.map ub).all cellsOK = true := by
  rw [List.all_eq_true]; intro x hx
  obtain ⟨b, _, rfl⟩ := List.mem_map.1 hx
  rfl
theorem flat_cells1 {es : List AV} (h : ∀ e ∈ es, isCell e = true) : flat es = es := by
  induction es with
  | nil => rfl
  | cons e r ih =>
    have : flat (e :: r) = cellsOf e ++ flat r := by simp [flat]
    rw [this, ih (fun x hx => h x (List.mem_cons_of_mem _ hx)), cellsOf_cell (h e (List.mem_cons_self ..))]
    rfl
/-- what is appended: its length, its cells -/
theorem srcE_sound (h : RelAt E ρ st a w) {v : Value} {x : AV} (hx : RV (XX E.X0 ρ st.h) w ρ v x) {sz : Nat} {xs : List AV} (hs : srcE sz st x = some xs) :
    ∃ vs : List Value, (Builtin.lenOf v).run P w = .ok xs.length w ∧ vs.length = xs.length * sz ∧ (∀ e ∈ xs, (cellsOf e).length = sz) ∧ (∀ w1 : World, w1.heap = w.heap → (Builtin.firstCells sz xs.length v).run P w1 = .ok vs.toArray w1) ∧
      ∀ (j : Nat) u y, vs[j]? = some u → (flat xs)[j]? = some y → RV (XX E.X0 ρ st.h) w noLoc u y := by
  have other : slE sz st x = some xs → ∃ vs : List Value, (Builtin.lenOf v).run P w = .ok xs.length w ∧ vs.length = xs.length * sz ∧ (∀ e ∈ xs, (cellsOf e).length = sz) ∧ (∀ w1 : World, w1.heap = w.heap → (Builtin.firstCells sz xs.length v).run P w1 = .ok vs.toArray w1) ∧
      ∀ (j : Nat) u y, vs[j]? = some u → (flat xs)[j]? = some y → RV (XX E.X0 ρ st.h) w noLoc u y := by
    intro hs
    obtain ⟨A, c, vs, rfl, hc, hr⟩ := slE_sound h hx hs
    refine ⟨vs, by simp [Builtin.lenOf], hr.len, hr.hsz, fun w1 hw1 => ?_, hr.rel⟩
    have hr1 : SlR (XX E.X0 ρ st.h) w1 A sz xs vs := ⟨hr.hsz, hr.len, fun j hj => by
      obtain ⟨ad, g1, g2, g3⟩ := hr.cell j hj
      exact ⟨ad, g1, g2, by rw [← g3]; simp only [World.cell?, hw1]⟩, fun j u y e1 e2 => (hr.rel j u y e1 e2).mono (fun b _ _ => by rw [hw1]) (fun b _ hb => hb) noLoc (fun _ _ h => h)⟩
    exact hr1.first xs.length c rfl
  cases x with
  | str l =>
    simp only [srcE] at hs
    split at hs
    · rename_i e; subst e
      obtain rfl := Option.some.inj hs
      rw [RV.str_of hx]
      refine ⟨l.map fun b => .int .u8 b.toNat, by simp [Builtin.lenOf, ba_size], by simp, fun e he => ?_, fun w1 _ => ?_, fun j u y e1 e2 => ?_⟩
      · obtain ⟨b, _, rfl⟩ := List.mem_map.1 he; rfl
      · simp only [Builtin.firstCells, Sem.run_pure]
        congr 1
        simp [ByteArray.data_extract]
      · rw [flat_cells1 (fun e he => by obtain ⟨b, _, rfl⟩ := List.mem_map.1 he; rfl)] at e2
        rw [List.getElem?_map] at e1 e2
        obtain ⟨b, g1, rfl⟩ := Option.map_eq_some_iff.1 e1
        rw [g1] at e2
        simp at e2
        subst e2
        exact .int _ _ _
    · cases hs
  | _ => exact other hs

theorem oneCells {xs : List AV} (hc : xs.all cellsOK = true) {vs : List Value} (hl : vs.length = (flat xs).length) {X : Nat → Prop} (hr : ∀ (j : Nat) u y, vs[j]? = some u → (flat xs)[j]? = some y → RV X w noLoc u y) :
    ∀ u ∈ vs, u.oneCell' = true := by
  intro u hu
  obtain ⟨j, hj, rfl⟩ := List.getElem_of_mem hu
  have hj' : j < (flat xs).length := by omega
  have hy := List.getElem?_eq_getElem hj'
  refine RV.one (hr j _ _ (List.getElem?_eq_getElem hj) hy) ?_
  obtain ⟨e, he, hye⟩ := List.mem_flatMap.1 (List.getElem_mem hj')
  exact List.all_eq_true.1 (List.all_eq_true.1 hc e he) _ hye

theorem run_append_more {t u ty e : TypeId} {i : TypeInfo} {z : Value} (ht : P.underlying t = some (.slice e)) (hu : P.underlying u = some .string ∨ ∃ e', P.underlying u = some (.slice e')) (hi : P.info? e = some i) (hz : i.zero = some z)
    (A : Option Addr) (n c m : Nat) (x : Value) (olds news : List Value) (hx : (Builtin.lenOf x).run P w = .ok m w) (ho : (Builtin.firstCells i.size n (.slice A n c)).run P w.drew = .ok olds.toArray w.drew)
    (hn : (Builtin.firstCells i.size m x).run P w.drew = .ok news.toArray w.drew) (hg : c < n + m) (h63 : n + m ≤ 9223372036854775807) (hb : (n + m) * i.bytes ≤ 140737488355328) :
    (Builtin.append_ #[t, u] ty #[.slice A n c, x]).run P w =
      .ok (.slice (some ⟨w.heap.size, 0, none⟩) (n + m) (grownCap w (n + m) c e)) (w.drew.alloc (.cells (olds.toArray ++ news.toArray ++ Builtin.zeroCells z.cells (grownCap w (n + m) c e - (n + m))) e)) := by
  have h1 : ¬ (n + m ≤ c) := by omega
  have h2 : ¬ (9223372036854775807 < (n : Int) + (m : Int)) := by omega
  have h3 : ¬ (281474976710656 < Builtin.nextslicecap (n + m) c * i.bytes) := Nat.not_lt.2 (growslice_fits hg hb)
  rcases hu with hu | ⟨e', hu⟩
  all_goals
    simp [Builtin.append_, run_underlying ht, run_underlying hu, sizeOf, typeInfo, zeroValue, hi, hz, hx, h1, h2, h3, Question.forced, ho, hn, newRow, grownCap]
    congr 2
    apply Array.ext'
    simp [List.append_assoc]
theorem run_append_in {t u ty e : TypeId} {i : TypeInfo} (ht : P.underlying t = some (.slice e)) (hu : P.underlying u = some .string ∨ ∃ e', P.underlying u = some (.slice e')) (hi : P.info? e = some i)
    (b o n c m : Nat) (x : Value) (news : List Value) (cur : Array Value) (te : TypeId) (fz : Nat × Nat) (hx : (Builtin.lenOf x).run P w = .ok m w) (hnl : news.length = m * i.size)
    (hn : (Builtin.firstCells i.size m x).run P w = .ok news.toArray w) (hg : n + m ≤ c) (hw : w.heap[b]? = some (.cells cur te fz)) (hz : ∀ j, j < cur.size → ¬ (fz.1 ≤ j ∧ j < fz.2))
    (hfit : o + n * i.size + news.length ≤ cur.size) (h1 : ∀ v ∈ news, v.oneCell' = true) :
    (Builtin.append_ #[t, u] ty #[.slice (some ⟨b, o, none⟩) n c, x]).run P w = .ok (.slice (some ⟨b, o, none⟩) (n + m) c) (w.setRow b (seg cur.toList (o + n * i.size) news).toArray) := by
  have hst := run_storeCells_gen P b (o + n * i.size) te fz news 0 cur w hw hz (by simpa using hfit) h1
  simp only [Nat.add_zero] at hst
  rcases hu with hu | ⟨e', hu⟩
  all_goals
    simp [Builtin.append_, run_underlying ht, run_underlying hu, sizeOf, typeInfo, hi, hx, hg, hn, Addr.add_lit, hst, seg]

theorem run_append_zero {t u ty e : TypeId} {i : TypeInfo} (ht : P.underlying t = some (.slice e)) (hu : P.underlying u = some .string ∨ ∃ e', P.underlying u = some (.slice e')) (hi : P.info? e = some i)
    (A : Option Addr) (x : Value) (hx : (Builtin.lenOf x).run P w = .ok 0 w) (hn : (Builtin.firstCells i.size 0 x).run P w = .ok #[] w) :
    (Builtin.append_ #[t, u] ty #[.slice A 0 0, x]).run P w = .ok (.slice A 0 0) w := by
  rcases hu with hu | ⟨e', hu⟩ <;> cases A <;>
    simp [Builtin.append_, run_underlying ht, run_underlying hu, sizeOf, typeInfo, hi, hx, hn, storeCells]
theorem flat_append (l r : List AV) : flat (l ++ r) = flat l ++ flat r := by simp [flat]
theorem append_rel {R : Value → AV → Prop} {l1 l2 : List Value} {m1 m2 : List AV} (hl : l1.length = m1.length) (h1 : ∀ (j : Nat) v a, l1[j]? = some v → m1[j]? = some a → R v a)
    (h2 : ∀ (j : Nat) v a, l2[j]? = some v → m2[j]? = some a → R v a) : ∀ (j : Nat) v a, (l1 ++ l2)[j]? = some v → (m1 ++ m2)[j]? = some a → R v a := by
  intro j v a e1 e2
  by_cases hj : j < l1.length
  · rw [List.getElem?_append_left hj] at e1
    rw [List.getElem?_append_left (by omega)] at e2
    exact h1 j v a e1 e2
  · rw [List.getElem?_append_right (by omega)] at e1 e2
    rw [← hl] at e2
    exact h2 _ v a e1 e2
theorem grown_arr (h : RelAt E ρ st a w) (d sz : Nat) {e : TypeId} {i : TypeInfo} {z : Value} (es xs : List AV) (olds news : List Value) (hsz1 : ∀ e ∈ es, (cellsOf e).length = sz) (hsz2 : ∀ e ∈ xs, (cellsOf e).length = sz)
    (hzs : z.cells.size = sz) (hl1 : olds.length = es.length * sz) (hl2 : news.length = xs.length * sz) (cap : Nat) (hcap : es.length + xs.length ≤ cap)
    (hr1 : ∀ (j : Nat) v x, olds[j]? = some v → (flat es)[j]? = some x → RV (XX E.X0 ρ st.h) w noLoc v x) (hr2 : ∀ (j : Nat) v x, news[j]? = some v → (flat xs)[j]? = some x → RV (XX E.X0 ρ st.h) w noLoc v x)
    (w' : World) (hw : w' = w.drew.alloc (.cells (olds.toArray ++ news.toArray ++ Builtin.zeroCells z.cells (cap - (es.length + xs.length))) e)) :
    RelAt E (upd ρ d ⟨some w.heap.size, 0, sz, (es ++ xs).length, cap⟩) (newW st d (.arr sz (es ++ xs))) a w' := by
  subst hw
  refine new_arr h d sz (es ++ xs) _ e (0, 0) _ cap ((Same.drew w).trans (Same.alloc _ _)) (heap_alloc_new w.drew _) (fun j _ hj => by simp at hj) (fun e he => ?_) (by simpa using hcap) ?_ (fun j v x e1 e2 => ?_)
  · rcases List.mem_append.1 he with h1 | h1
    · exact hsz1 e h1
    · exact hsz2 e h1
  · simp only [Array.size_append, List.size_toArray, size_zeroCells, hzs, hl1, hl2, ← Nat.add_mul]
    exact Nat.mul_le_mul_right _ (by omega)
  · rw [flat_append] at e2
    have hj : j < (flat es ++ flat xs).length := (List.getElem?_eq_some_iff.1 e2).1
    rw [← Array.getElem?_toList] at e1
    simp only [Array.toList_append] at e1
    rw [List.getElem?_append_left (by simp only [List.length_append, hl1, hl2, flat_length hsz1, flat_length hsz2] at hj ⊢; exact hj)] at e1
    exact append_rel (by rw [hl1, flat_length hsz1]) hr1 hr2 j v x e1 e2
theorem nil_arr (h : RelAt E ρ st a w) (d sz : Nat) : RelAt E (upd ρ d ⟨none, 0, sz, 0, 0⟩) (newW st d (.arr sz [])) a w := by
  refine h.fresh d ⟨none, 0, sz, 0, 0⟩ (.arr sz []) (turned_same (Same.refl w)) (fun g hg => by cases hg) ⟨rfl, rfl, Nat.le_refl _, fun e he => by simp at he, rfl⟩

theorem app_sound (h : RelAt E ρ st a w) (d : Nat) {t u ty e : TypeId} {i : TypeInfo} {z : Value} (ht : P.underlying t = some (.slice e)) (hu : P.underlying u = some .string ∨ ∃ e', P.underlying u = some (.slice e'))
    (hi : P.info? e = some i) (hz : i.zero = some z) (hzs : z.cells.size = i.size) {vs vx : Value} {s x : AV} (hs : RV (XX E.X0 ρ st.h) w ρ vs s) (hx : RV (XX E.X0 ρ st.h) w ρ vx x) (hk : effApp d st i.size i.bytes s x K) :
    ∃ v' w' ρ' st' av, (Builtin.append_ #[t, u] ty #[vs, vx]).run P w = .ok v' w' ∧ RelAt E ρ' st' a w' ∧ RV (XX E.X0 ρ' st'.h) w' ρ' v' av ∧ K av st' ∧ (s = .nilsl → Same w w') := by
  unfold effApp at hk
  split at hk
  · rename_i xs hxs
    obtain ⟨news, n1, n2, n3, n4, n5⟩ := srcE_sound (P := P) h hx hxs
    obtain ⟨hc, hk⟩ := hk
    have hfl := flat_length n3
    have hone := oneCells hc (by rw [n2, hfl]) n5
    -- the growing case, once for both
    have grow : ∀ (dd : Nat) (es : List AV) (A : Option Addr) (c : Nat) (olds : List Value), vs = .slice A es.length c → c < es.length + xs.length → (∀ e ∈ es, (cellsOf e).length = i.size) → olds.length = es.length * i.size →
        (Builtin.firstCells i.size es.length (.slice A es.length c)).run P w.drew = .ok olds.toArray w.drew → (∀ (j : Nat) v x, olds[j]? = some v → (flat es)[j]? = some x → RV (XX E.X0 ρ st.h) w noLoc v x) →
        (es.length + xs.length) * i.bytes ≤ 140737488355328 → es.length + xs.length ≤ 9223372036854775807 → K (.sl dd 0 (es.length + xs.length)) (newW st dd (.arr i.size (es ++ xs))) →
        ∃ v' w' ρ' st' av, (Builtin.append_ #[t, u] ty #[vs, vx]).run P w = .ok v' w' ∧ RelAt E ρ' st' a w' ∧ RV (XX E.X0 ρ' st'.h) w' ρ' v' av ∧ K av st' ∧ (s = .nilsl → Same w w') := by
      intro dd es A c olds hv hg h1 h2 h3 h4 h5 h6 h7
      have hcap := grownCap_ge w (es.length + xs.length) c e
      refine ⟨_, _, _, _, _, by rw [hv]; exact run_append_more ht hu hi hz A es.length c xs.length vx olds news n1 h3 (n4 w.drew rfl) hg h6 h5, grown_arr h dd i.size (e := e) (i := i) (z := z) es xs olds news h1 n3 hzs h2 n2 (grownCap w (es.length + xs.length) c e) hcap h4 n5 _ rfl, ?_, h7, fun _ => (Same.drew w).trans (Same.alloc _ _)⟩
      exact .sl _ dd 0 (es.length + xs.length) _ ⟨some w.heap.size, 0, i.size, (es ++ xs).length, grownCap w (es.length + xs.length) c e⟩ _ (upd_at _ _ _) (by simp) hcap (by simp) (.inr (by simp))
    have zero : ∀ (dd : Nat) (A : Option Addr), vs = .slice A 0 0 → xs = [] → K (.sl dd 0 0) (newW st dd (.arr i.size [])) →
        ∃ v' w' ρ' st' av, (Builtin.append_ #[t, u] ty #[vs, vx]).run P w = .ok v' w' ∧ RelAt E ρ' st' a w' ∧ RV (XX E.X0 ρ' st'.h) w' ρ' v' av ∧ K av st' ∧ (s = .nilsl → Same w w') := by
      intro dd A hv he k0
      subst he
      have hn0 : news = [] := List.eq_nil_of_length_eq_zero (by simpa using n2)
      subst hn0
      refine ⟨_, _, _, _, _, by rw [hv]; exact run_append_zero ht hu hi A vx n1 (by simpa using n4 w rfl), nil_arr h dd i.size, ?_, k0, fun _ => Same.refl w⟩
      exact .sl _ dd 0 0 0 ⟨none, 0, i.size, 0, 0⟩ A (upd_at _ _ _) (Nat.le_refl _) (Nat.le_refl _) (Nat.le_refl _) (.inl rfl)
    split at hk
    · obtain ⟨k1, k2, k3⟩ := hk
      have hv : vs = .slice none 0 0 := by cases hs; rfl
      cases xs with
      | nil => exact zero d none hv rfl k3
      | cons x0 r =>
        exact grow d [] none 0 [] hv (by simp) (fun e he => by simp at he) (by simp) (run_firstCells_none ..) (fun j v x e1 _ => by simp at e1) (by simpa using k1) (by simpa using k2) (by simpa using k3)
    · rename_i id off n
      split at hk
      · rename_i sz' es hid
        obtain ⟨rfl, q1, q2, q3, q4⟩ := hk
        cases hs with
        | sl _ _ _ _ c L A hL h1 h2 h3 hA =>
          obtain ⟨hLs, hcnt, hcap, hsz, hcells, hnone⟩ := arr_cells h hid hL
          obtain ⟨olds, hr, hn⟩ := sl_read h hid hL h1 h2 h3 hA
          by_cases hg : c < n + xs.length
          · have hr1 : SlR (XX E.X0 ρ st.h) w.drew A i.size (sub3 es off n) olds := ⟨hr.hsz, hr.len, fun j hj => hr.cell j hj, fun j u y e1 e2 => (hr.rel j u y e1 e2).mono (w' := w.drew) (fun _ _ _ => rfl) (fun b _ hb => hb) noLoc (fun _ _ h => h)⟩
            have := grow id (sub3 es off n) A c olds (by rw [hn]) (by rw [hn]; exact hg) hr.hsz hr.len (hr1.first _ _ rfl) hr.rel (by rw [hn]; exact q2) (by rw [hn]; exact q3) (by rw [hn]; exact q4)
            exact this
          · by_cases hc0 : c = 0
            · obtain rfl : n = 0 := by omega
              have hx0 : xs = [] := List.eq_nil_of_length_eq_zero (by omega)
              subst hx0
              subst hc0
              have hsub : sub3 es off 0 = [] := List.eq_nil_of_length_eq_zero hn
              rw [hsub] at q4
              exact zero id A rfl rfl (by simpa using q4)
            · rcases hA with hA | hA
              · exact absurd hA hc0
              · cases hb : L.b with
                | none => have := hnone hb; omega
                | some b =>
                  rw [hb] at hA
                  subst hA
                  obtain ⟨cur, te, fz, g1, g2, g3, g4, g5⟩ := hcells b hb
                  have hfs := flat_length hr.hsz
                  have hm1 : off * L.sz + c * L.sz ≤ L.cap * L.sz := by rw [← Nat.add_mul]; exact Nat.mul_le_mul_right _ h3
                  have hm2 : n * L.sz + xs.length * L.sz ≤ c * L.sz := by rw [← Nat.add_mul]; exact Nat.mul_le_mul_right _ (by omega)
                  rw [hLs] at hm1 hm2
                  have hbt := XX_lt h ⟨id, _, L, hid, hL, hb⟩
                  refine ⟨_, _, upd ρ id ⟨some b, L.o + off * i.size, i.size, n + xs.length, c⟩, newW st id (.arr i.size (sub3 es off n ++ xs)), .sl id 0 (n + xs.length),
                    run_append_in (P := P) (ty := ty) ht hu hi b (L.o + off * L.sz) n c xs.length vx news cur te fz n1 n2 (n4 w rfl) (by omega) g1 g2 (by rw [hLs, n2]; omega) hone, ?_, ?_, q4, fun e => by cases e⟩
                  · refine h.fresh id ⟨some b, L.o + off * i.size, i.size, n + xs.length, c⟩ (.arr i.size (sub3 es off n ++ xs)) ⟨rfl, rfl, rfl, by simp, fun k hk hne => setRow_other w b k _ (fun e => by subst e; exact hne _ L hid hL hb)⟩ (fun g hg => .inr ⟨_, L, hid, hL, by rw [hb]; exact hg⟩) ?_
                    refine ⟨rfl, by simp [hn], by simp only; omega, fun e he => ?_, ?_⟩
                    · rcases List.mem_append.1 he with e1 | e1
                      · exact hr.hsz e e1
                      · exact n3 e e1
                    · refine ⟨(seg cur.toList (L.o + off * L.sz + n * i.size) news).toArray, te, fz, setRow_heap w b cur _ te fz g1, ?_, ?_, ?_, ?_⟩
                      · have := seg_length (l := cur.toList) (k := L.o + off * L.sz + n * i.size) (s := news) (by rw [hLs, n2]; simp; omega)
                        intro j hj
                        simp only [List.size_toArray, this] at hj
                        exact g2 j (by simpa using hj)
                      · have := seg_length (l := cur.toList) (k := L.o + off * L.sz + n * i.size) (s := news) (by rw [hLs, n2]; simp; omega)
                        simp only [List.size_toArray, this]
                        simp
                        omega
                      · rw [flat_append, List.length_append, hfs, hfl, hn]; omega
                      · intro j v y e1 e2
                        rw [flat_append] at e2
                        simp only [List.getElem?_toArray] at e1
                        rw [seg_get (by rw [hLs, n2]; simp; omega)] at e1
                        by_cases hj : j < n * i.size
                        · rw [if_pos (by rw [hLs]; omega)] at e1
                          rw [List.getElem?_append_left (by rw [hfs, hn]; exact hj), flat_sub3_get hsz (by omega) hj] at e2
                          exact g5 (off * i.size + j) v y (by rw [← e1, Array.getElem?_toList]; congr 1; omega) e2
                        · rw [List.getElem?_append_right (by rw [hfs, hn]; omega), hfs, hn] at e2
                          have hj2 : j - n * i.size < (flat xs).length := (List.getElem?_eq_some_iff.1 e2).1
                          rw [if_neg (by rw [hLs]; omega), if_pos (by rw [hLs, n2]; rw [hfl] at hj2; omega)] at e1
                          exact n5 _ v y (by rw [← e1]; congr 1; rw [hLs]; omega) e2
                  · exact .sl _ id 0 (n + xs.length) c _ _ (upd_at _ _ _) (by simp) (by omega) (by simp) (.inr (by simp [hLs]))
      · exact hk.elim
    · exact hk.elim
  · exact hk.elim
end
end Go.Proofs.YtgkcbhdpenmogaaDoor.Eng
