/- The engine, part G: stores; all effects. -/
import Derived.Test.YtgkcbhdpenmogaaDoorEngF
set_option linter.all false
namespace Go.Proofs.YtgkcbhdpenmogaaDoor.Eng
section
variable {P : Program} {E : Env} {ρ : Loc} {st : St} {a : Act} {w : World} {K : AV → St → Prop}

theorem nth_set {es : List AV} {i : Nat} (hi : i < es.length) (e : AV) (q : Nat) : nth (es.set i e) q = if q = i then e else nth es q := by
  unfold nth
  simp only [List.getD_eq_getElem?_getD, List.getElem?_set]
  by_cases h : q = i
  · subst h; simp [hi]
  · simp [h, Ne.symm h]
theorem flat_set {sz : Nat} {es : List AV} (hsz : ∀ e ∈ es, (cellsOf e).length = sz) {i : Nat} (hi : i < es.length) {e' : AV} (he : (cellsOf e').length = sz) (j : Nat) :
    (flat (es.set i e'))[j]? = if i * sz ≤ j ∧ j < i * sz + sz then (cellsOf e')[j - i * sz]? else (flat es)[j]? := by
  have hsz' : ∀ e ∈ es.set i e', (cellsOf e).length = sz := by
    intro e h
    rcases List.mem_or_eq_of_mem_set h with h1 | h1
    · exact hsz e h1
    · rw [h1]; exact he
  have hmul : i * sz + sz ≤ es.length * sz := by rw [← Nat.succ_mul]; exact Nat.mul_le_mul_right _ hi
  by_cases hj : j < es.length * sz
  · have hs0 : 0 < sz := by rcases Nat.eq_zero_or_pos sz with rfl | h0 <;> omega
    have hq : j / sz < es.length := (Nat.div_lt_iff_lt_mul hs0).2 hj
    have hm := Nat.mod_lt j hs0
    have hd : j / sz * sz + j % sz = j := by rw [Nat.mul_comm]; exact Nat.div_add_mod j sz
    have e1 := flat_get (es := es.set i e') (j / sz) (j % sz) hsz' (by simpa using hq) hm
    have e2 := flat_get (es := es) (j / sz) (j % sz) hsz hq hm
    rw [hd] at e1 e2
    rw [e1, nth_set hi]
    by_cases h : j / sz = i
    · rw [if_pos h, if_pos (by subst h; omega)]
      congr 1
      subst h; omega
    · rw [if_neg h, if_neg, e2]
      intro hh
      apply h
      have h1 : i ≤ j / sz := (Nat.le_div_iff_mul_le hs0).2 hh.1
      have h2 : j / sz < i + 1 := (Nat.div_lt_iff_lt_mul hs0).2 (by rw [Nat.succ_mul]; omega)
      omega
  · rw [if_neg (by omega), List.getElem?_eq_none (by rw [flat_length hsz']; simpa using hj), List.getElem?_eq_none (by rw [flat_length hsz]; omega)]
theorem setEl_cells {e v : AV} {f : Nat} (h : f + (cellsOf v).length ≤ (cellsOf e).length) : cellsOf (setEl e f v) = seg (cellsOf e) f (cellsOf v) := by
  unfold setEl
  split
  · rename_i h1
    obtain ⟨rfl, h1⟩ := h1
    unfold seg
    rw [Nat.zero_add, h1, List.drop_length]
    simp
  · rfl
theorem run_storeVar {t : TypeId} {n : Nat} (hn : szOf P t = some n) {b o : Nat} {v : Value} (hv : v.cells.size = n) {cur : Array Value} {te : TypeId} {fz : Nat × Nat} (hw : w.heap[b]? = some (.cells cur te fz))
    (hz : ∀ j, j < cur.size → ¬ (fz.1 ≤ j ∧ j < fz.2)) (hfit : o + n ≤ cur.size) (h1 : ∀ u ∈ v.cells.toList, u.oneCell' = true) :
    (Instr.storeAt t (.pointer (some ⟨b, o, none⟩)) v).run P w = .ok () (w.setRow b (seg cur.toList o v.cells.toList).toArray) := by
  have hst := run_storeCells_gen P b o te fz v.cells.toList 0 cur w hw hz (by simp [hv]; omega) h1
  simp only [Nat.add_zero] at hst
  simp [Instr.storeAt, Instr.sureAddr, storeVar, run_sizeOf hn, hv, hst, seg]
theorem effSt_sound (h : RelAt E ρ st a w) {t : TypeId} {n : Nat} (hn : szOf P t = some n) {vp vv : Value} {x v : AV} (hx : RV (XX E.X0 ρ st.h) w ρ vp x) (hv : RV (XX E.X0 ρ st.h) w ρ vv v) (hk : effSt st n x v K) :
    ∃ w' ρ' st', (Instr.storeAt t vp vv).run P w = .ok () w' ∧ RelAt E ρ' st' a w' ∧ K .undef st' := by
  unfold effSt at hk
  split at hk
  · rename_i id i f
    obtain ⟨av, st', h1, h2, h3, h4, h5, h6⟩ := keepV_sound h hv hk
    obtain ⟨k1, k0, k2⟩ := h6
    split at k2
    · rename_i sz es hid
      obtain ⟨k3, k4⟩ := k2
      cases hx with
      | ptr _ _ _ _ L b hL hb hi hf =>
        obtain ⟨hLs, hcnt, hcap, hsz, hcells, _⟩ := arr_cells h1 hid hL
        obtain ⟨cur, te, fz, g1, g2, g3, g4, g5⟩ := hcells b hb
        obtain ⟨c1, c2, c3⟩ := h3.cells h5
        have hi' : i < es.length := by omega
        have hee := hsz _ (nth_mem hi')
        have hbig : i * sz + sz ≤ L.cap * sz := by rw [← Nat.succ_mul]; exact Nat.mul_le_mul_right _ (by omega)
        have hse := setEl_cells (e := nth es i) (v := av) (f := f) (by omega)
        have hsel : (cellsOf (setEl (nth es i) f av)).length = sz := by rw [hse, seg_length (by omega), hee]
        refine ⟨_, ρ, _, run_storeVar (P := P) hn (by rw [c1]; exact k1) g1 g2 (by rw [hLs]; omega) c2, ?_, k4⟩
        refine h1.modify id L _ _ hid hL ⟨rfl, rfl, rfl, by simp, fun k hk hne => setRow_other w b k _ (fun e => by subst e; exact hne _ L hid hL hb)⟩ ?_
        have hfe := flat_length hsz
        have hsz' : ∀ e ∈ es.set i (setEl (nth es i) f av), (cellsOf e).length = sz := by
          intro e he
          rcases List.mem_or_eq_of_mem_set he with e1 | e1
          · exact hsz e e1
          · rw [e1]; exact hsel
        refine ⟨hLs, by simpa using hcnt, hcap, hsz', ?_⟩
        rw [hb]
        have hsl := seg_length (l := cur.toList) (k := L.o + i * L.sz + f) (s := vv.cells.toList) (by simp [c1]; rw [hLs]; omega)
        refine ⟨_, te, fz, setRow_heap w b cur _ te fz g1, ?_, ?_, ?_, ?_⟩
        · intro j hj
          simp only [List.size_toArray, hsl] at hj
          exact g2 j (by simpa using hj)
        · simp only [List.size_toArray, hsl]; simpa using g3
        · rw [flat_length hsz']; simp; exact Nat.mul_le_mul_right _ (by omega)
        · intro j u y e1 e2
          rw [flat_set hsz hi' hsel] at e2
          simp only [List.getElem?_toArray] at e1
          rw [seg_get (by simp [c1]; rw [hLs]; omega)] at e1
          by_cases hj : i * sz ≤ j ∧ j < i * sz + sz
          · rw [if_pos hj, hse, seg_get (by omega)] at e2
            have hcl : vv.cells.toList.length = (cellsOf av).length := by simpa using c1
            by_cases hj1 : j - i * sz < f
            · rw [if_pos hj1] at e2
              rw [if_pos (by rw [hLs]; omega)] at e1
              have := flat_get (es := es) i (j - i * sz) hsz hi' (by omega)
              rw [show i * sz + (j - i * sz) = j by omega] at this
              exact g5 j u y (by rw [← e1, Array.getElem?_toList]) (by rw [this]; exact e2)
            · rw [if_neg hj1] at e2
              by_cases hj2 : j - i * sz < f + (cellsOf av).length
              · rw [if_pos hj2] at e2
                rw [if_neg (by rw [hLs]; omega), if_pos (by rw [hLs, hcl]; omega)] at e1
                have hr := c3 (j - i * sz - f) u y (by rw [← e1]; congr 1; rw [hLs]; omega) e2
                exact hr.toNo (noRef_cells h4 y (List.mem_of_getElem? e2)) noLoc
              · rw [if_neg hj2] at e2
                rw [if_neg (by rw [hLs]; omega), if_neg (by rw [hLs, hcl]; omega)] at e1
                have := flat_get (es := es) i (j - i * sz) hsz hi' (by omega)
                rw [show i * sz + (j - i * sz) = j by omega] at this
                exact g5 j u y (by rw [← e1, Array.getElem?_toList]) (by rw [this]; exact e2)
          · rw [if_neg hj] at e2
            have hcl : vv.cells.toList.length = (cellsOf av).length := by simpa using c1
            have e1' : cur.toList[L.o + j]? = some u := by
              rcases Nat.lt_or_ge (L.o + j) (L.o + i * L.sz + f) with h7 | h7
              · rw [if_pos h7] at e1; exact e1
              · rw [if_neg (by omega), if_neg (by rw [hLs] at h7 ⊢; rw [hcl]; omega)] at e1; exact e1
            exact g5 j u y (by rw [← e1', Array.getElem?_toList]) e2
    · exact k2.elim
  · rename_i id f
    obtain ⟨k0, k1, k2⟩ := hk
    split at k2
    · rename_i cs hid
      obtain ⟨k3, k4⟩ := k2
      cases hx with
      | vptr _ _ _ L b hL hb =>
        obtain ⟨cur, te, fz, g1, g2, g3, g4, g5⟩ := var_cells h hid hL hb
        obtain ⟨c1, c2, c3⟩ := hv.cells k0
        have hcl : vv.cells.toList.length = (cellsOf v).length := by simpa using c1
        refine ⟨_, ρ, _, run_storeVar (P := P) hn (by rw [c1]; exact k1) g1 g2 (by omega) c2, ?_, k4⟩
        refine h.modify id L _ _ hid hL ⟨rfl, rfl, rfl, by simp, fun k hk hne => setRow_other w b k _ (fun e => by subst e; exact hne _ L hid hL hb)⟩ ?_
        have hsl := seg_length (l := cur.toList) (k := L.o + f) (s := vv.cells.toList) (by simp [c1]; omega)
        have hsl2 := seg_length (l := cs) (k := f) (s := cellsOf v) (by omega)
        refine ⟨b, hb, _, te, fz, setRow_heap w b cur _ te fz g1, ?_, ?_, by rw [hsl2]; exact Nat.le_refl _, ?_⟩
        · intro j hj
          simp only [List.size_toArray, hsl] at hj
          exact g2 j (by simpa using hj)
        · simp only [List.size_toArray, hsl, hsl2]; simpa using g3
        · intro j u y e1 e2
          simp only [List.getElem?_toArray] at e1
          exact seg_rel (R := fun u y => RV (XX E.X0 ρ st.h) w ρ u y) (cur := cur.toList) (vs := vv.cells.toList) (cs := cs) (as := cellsOf v) (o := L.o) (p := f)
            (fun j v a q1 q2 => g5 j v a (by rw [← q1, Array.getElem?_toList]) q2) c3 hcl (by omega) (by simpa using g3) j u y e1 e2
    · exact k2.elim
  · exact hk.elim

theorem zok_some {i : TypeInfo} (h : zok i = true) : ∃ z, i.zero = some z ∧ z.cells.size = i.size := by
  unfold zok at h
  split at h
  · rename_i z hz; exact ⟨z, hz, by simpa using h⟩
  · cases h
theorem stb_sound (h : RelAt E ρ st a w) (d : Nat) {e : TypeId} {l : List UInt8} (hk : K (.sl d 0 l.length) (newW st d (.arr 1 (l.map ub)))) :
    ∃ v' w' ρ' st' av, (Conv.stringToBytes e ⟨l.toArray⟩).run P w = .ok v' w' ∧ RelAt E ρ' st' a w' ∧ RV (XX E.X0 ρ' st'.h) w' ρ' v' av ∧ K av st' ∧ Same w w' := by
  let c := grownCap w l.length 0 e
  have hc : l.length ≤ c := grownCap_ge w l.length 0 e
  let cur : Array Value := (l.map fun b => Value.int .u8 b.toNat).toArray ++ Array.replicate (c - l.length) (.int .u8 0)
  have hcur : cur.size = c := by simp [cur]; omega
  let w1 : World := w.drew.alloc (.cells cur e)
  let w2 : World := w1.freeze ⟨w.heap.size, c, none⟩ 1
  have hw1 : w1.heap[w.heap.size]? = some (.cells cur e (0, 0)) := heap_alloc_new w.drew _
  have hlt : w.heap.size < w1.heap.size := (Array.getElem?_eq_some_iff.1 hw1).1
  have hw2 : w2.heap[w.heap.size]? = some (.cells cur e (c, c + 1)) := by
    simp only [w2, World.freeze, Nat.one_ne_zero, if_false, Array.getElem?_modify]
    rw [if_pos trivial, hw1]
    rfl
  have hs2 : Same w w2 := by
    refine ⟨?_, ?_, ?_, ?_, ?_⟩
    · simp [w2, World.freeze, w1]; rfl
    · simp [w2, World.freeze, w1]
    · simp [w2, World.freeze, w1]; rfl
    · simp [w2, World.freeze, w1]
    · intro b hb
      simp only [w2, World.freeze, Nat.one_ne_zero, if_false, Array.getElem?_modify]
      rw [if_neg (by omega)]
      exact RowKit.Below.heap_alloc w.drew _ b hb
  have hfl : flat (l.map ub) = l.map ub := flat_cells1 (fun e he => by obtain ⟨b, _, rfl⟩ := List.mem_map.1 he; rfl)
  refine ⟨.slice (some ⟨w.heap.size, 0, none⟩) l.length c, w2, _, _, .sl d 0 l.length, ?_, new_arr h d 1 (l.map ub) cur e (c, c + 1) w2 c hs2 hw2 (fun j hj => by simp only; omega) (fun e he => by obtain ⟨b, _, rfl⟩ := List.mem_map.1 he; rfl) (by simpa using hc) (by omega) (fun j v x e1 e2 => ?_), ?_, hk, hs2⟩
  · have hch : (choose (.appendCap (⟨l.toArray⟩ : ByteArray).size 0 e)).run P w = .ok c w.drew := by
      simp [Question.forced, c, grownCap, ba_size]
    have hsh : w1.shape? w.heap.size = some (e, c) := by simp [World.shape?, hw1, hcur]
    unfold Conv.stringToBytes
    simp only [Sem.run_bind, hch, Result.andThen_ok]
    have hcc : ((⟨l.toArray⟩ : ByteArray).data.map fun b => Value.int .u8 b.toNat) ++ Array.replicate (c - (⟨l.toArray⟩ : ByteArray).size) (.int .u8 0) = cur := by
      simp [cur, ba_size]
    rw [hcc]
    simp only [newRow, Sem.run_bind, run_newObj, Result.andThen_ok, Sem.run_pure, markStringish, run_shape]
    have : ({ w.drew with heap := w.drew.heap.push (.cells cur e) } : World).shape? w.drew.heap.size = some (e, c) := hsh
    rw [this]
    simp only [run_freeze, ba_size, Result.andThen_ok]
    rfl
  · rw [hfl, List.getElem?_map] at e2
    obtain ⟨b, g1, rfl⟩ := Option.map_eq_some_iff.1 e2
    have hj : j < l.length := (List.getElem?_eq_some_iff.1 g1).1
    have : cur[j]? = some (.int .u8 b.toNat) := by
      simp only [cur]
      rw [Array.getElem?_append_left (by simpa using hj)]
      simp [g1]
    rw [this] at e1
    obtain rfl := Option.some.inj e1
    exact .int _ _ _
  · exact .sl _ d 0 l.length c ⟨some w.heap.size, 0, 1, (l.map ub).length, c⟩ _ (upd_at _ _ _) (by simp) hc (by simp) (.inr (by simp))

theorem trE_ev (st : St) (x : Operand) : ev st (trE x) = ev st (trE x) := rfl
def isNew : AO → Bool
  | .alloc _ | .box _ _ | .bsl _ _ | .stb _ => true
  | .app _ _ (.c .nilsl) _ => true
  | _ => false
theorem eff_sound (h : RelAt E ρ st a w) (d : Nat) {o : Oper} (hk : eff d st (trOp P o) K) : OpEff P E a w (execOp a.eval o) (isNew (trOp P o)) K := by
  unfold trOp at hk
  split at hk
  · exact hk.elim
  · exact hk.elim
  · exact hk.elim
  · (repeat' (first | exact hk.elim | (unfold trEq at hk; split at hk <;> exact hk.elim) | split at hk))
  · exact hk.elim
  · rename_i s t x ho
    unfold trConv at hk
    split at hk
    · exact hk.elim
    · split at hk <;> exact hk.elim
    · rename_i e hs ht
      split at hk
      · rename_i hu
        simp only [eff] at hk
        split at hk
        · rename_i l hl
          have hx := evalRV h x
          rw [hl] at hx
          obtain ⟨v, w', ρ', st', av, h1, h2, h3, h4, hsm⟩ := stb_sound (P := P) (e := e) h d hk
          refine ⟨_, v, w', ρ', st', av, ?_, .inl rfl, h2, h3, h4, fun _ => hsm⟩
          simp [execOp, ho, convert, run_underlying hs, run_underlying ht, run_underlying (isU8_sound hu), RV.str_of hx, h1]
        · exact hk.elim
      · exact hk.elim
    all_goals exact hk.elim
  · exact hk.elim
  · exact hk.elim
  · (repeat' (first | exact hk.elim | split at hk))
  · (repeat' (first | exact hk.elim | split at hk))
  · split at hk <;> exact hk.elim
  · rename_i t x v ho
    split at hk
    · rename_i n hn
      obtain ⟨w', ρ', st', h1, h2, h3⟩ := effSt_sound (P := P) h hn (evalRV h x) (evalRV h v) hk
      exact ⟨.skip, undef, w', ρ', st', .undef, by simp [execOp, ho, h1], .inr ⟨rfl, rfl⟩, h2, .undef _ _, h3, fun hq => by unfold trOp at hq; simp [ho, hn, isNew] at hq⟩
    · exact hk.elim
  · split at hk
    · exact hk.elim
    · split at hk <;> exact hk.elim
    · exact hk.elim
  · split at hk
    · split at hk
      · split at hk
        · split at hk
          · exact hk.elim
          · split at hk <;> exact hk.elim
        · exact hk.elim
      · exact hk.elim
    · exact hk.elim
  · split at hk
    · split at hk
      · split at hk
        · split at hk <;> exact hk.elim
        · exact hk.elim
      · exact hk.elim
    · exact hk.elim
  · rename_i t ho
    split at hk
    · rename_i z hz
      obtain ⟨k1, k2⟩ := hk
      obtain ⟨v, w', ρ', st', av, h1, h2, h3, h4, hsm⟩ := alloc_sound (P := P) h d hz k1 k2
      exact ⟨_, v, w', ρ', st', av, by simp [execOp, ho, h1], .inl rfl, h2, h3, h4, fun _ => hsm⟩
    · exact hk.elim
  · rename_i t x ho
    split at hk
    · obtain ⟨k1, k2, k3⟩ := hk
      obtain ⟨v, w', ρ', st', av, h1, h2, h3, h4, hsm⟩ := box_sound (P := P) (t := t) h d (evalRV h x) k1 k3
      exact ⟨_, v, w', ρ', st', av, by simp [execOp, ho, h1], .inl rfl, h2, h3, h4, fun _ => hsm⟩
    · exact hk.elim
  · rename_i t len parts ho
    split at hk
    · rename_i e ht
      split at hk
      · rename_i s z hs hz
        split at hk
        · rename_i hc
          simp only [Bool.and_eq_true, decide_eq_true_eq, beq_iff_eq, seqParts] at hc
          obtain ⟨⟨c1, c2⟩, c3⟩ := hc
          obtain ⟨v, w', ρ', st', av, h1, h2, h3, h4, hsm⟩ := bsl_sound (P := P) (t := t) h d ht hs hz c2 c1 c3 hk
          refine ⟨_, v, w', ρ', st', av, ?_, .inl rfl, h2, h3, h4, fun _ => hsm⟩
          have hm : (parts.map fun (q : Nat × Operand) => (q.1, a.eval q.2)) = (parts.toList.map fun q => (q.1, a.eval q.2)).toArray := by
            apply Array.ext'; simp
          simp only [execOp, ho, Sem.run_bind]
          rw [show (parts.map fun (i, x) => (i, a.eval x)) = (parts.map fun (q : Nat × Operand) => (q.1, a.eval q.2)) from rfl, hm, h1]
          simp
        · exact hk.elim
      · exact hk.elim
    · exact hk.elim
  · rename_i c ho
    obtain ⟨callee, args, argTypes⟩ := c
    obtain ⟨args⟩ := args
    obtain ⟨argTypes⟩ := argTypes
    unfold trCall at hk
    simp only at hk
    split at hk
    · split at hk <;> exact hk.elim
    · exact hk.elim
    · exact hk.elim
    · exact hk.elim
    · exact hk.elim
    · exact hk.elim
    · rename_i x y t u r
      have app : ∀ {e : TypeId}, P.underlying t = some (.slice e) → (P.underlying u = some .string ∨ ∃ e', P.underlying u = some (.slice e')) → ∀ {i : TypeInfo}, P.info? e = some i → zok i = true →
          effApp d st i.size i.bytes (ev st (trE x)) (ev st (trE y)) K → OpEff P E a w (execOp a.eval o) (isNew (trOp P o)) K := by
        intro e ht hu i hi hzk hk
        obtain ⟨z, hz, hzs⟩ := zok_some hzk
        obtain ⟨v, w', ρ', st', av, h1, h2, h3, h4, h5⟩ := app_sound (P := P) (ty := o.type) h d ht hu hi hz hzs (evalRV h x) (evalRV h y) hk
        refine ⟨_, v, w', ρ', st', av, ?_, .inl rfl, h2, h3, h4, fun hq => by
          unfold trOp at hq
          refine h5 ?_
          have hq : isNew (.app i.size i.bytes (trE x) (trE y)) = true := by
            rcases hu with hu | ⟨e', hu⟩ <;> simpa [ho, trCall, ht, hu, hi, hzk] using hq
          unfold isNew at hq
          split at hq
          all_goals first | (cases hq; done) | (rename_i e; injection e; done) | (rename_i e; injection e with _ _ e _; rw [e]; rfl)⟩
        rw [callBuiltin_run ho rfl]
        have : (Builtin.append_ (t :: u :: r).toArray o.type #[a.eval x, a.eval y]).run P w = (Builtin.append_ #[t, u] o.type #[a.eval x, a.eval y]).run P w := by
          simp [Builtin.append_]
        simp [builtin, this, h1]
      split at hk
      · rename_i e e' ht hu
        split at hk
        · rename_i i hi
          split at hk
          · rename_i hz; exact app ht (.inr ⟨_, hu⟩) hi hz hk
          · exact hk.elim
        · exact hk.elim
      · rename_i e ht hu
        split at hk
        · rename_i i hi
          split at hk
          · rename_i hz; exact app ht (.inl hu) hi hz hk
          · exact hk.elim
        · exact hk.elim
      · exact hk.elim
    all_goals (repeat' (first | exact hk.elim | split at hk))
  · (repeat' (first | exact hk.elim | split at hk))
  · split at hk <;> exact hk.elim
  all_goals first | exact hk.elim | (exfalso; (repeat' (first | exact hk.elim | split at hk))) | (exfalso; rename_i f first cap ho; by_cases hb : first.isEmpty = true <;> simp [hb, eff] at hk)
end
end Go.Proofs.YtgkcbhdpenmogaaDoor.Eng
