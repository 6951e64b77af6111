/- The engine, part Y: direct style: effects, operations, code. -/
import Derived.Test.YtgkcbhdpenmogaaDoorEngW
set_option linter.all false
namespace Go.Proofs.YtgkcbhdpenmogaaDoor.Eng
/- EFFECTS -/
inductive RS where
  | ok (c : Prop) (v : AV) (st : St)
  | fail
def RS.To : RS → (AV → St → Prop) → Prop
  | .ok c v st, K => c ∧ K v st
  | .fail, _ => False
inductive RL where
  | ok (c : Prop) (vs : List AV) (st : St)
  | fail
def keepSl (st : St) (id o n : Nat) (W : Option Win) : RS :=
  match W with
  | some (.arr sz es) => .ok True (.ro sz (sub3 es o n)) (freeze st id)
  | _ => .fail
def keepR (st : St) (v : AV) : RS :=
  match v with
  | .sl id o n => keepSl st id o n (hget st.h id)
  | v => .ok (noRef v = true ∧ cellsOK v = true) v st
def rl2 (c : Prop) (v : AV) (r : RL) : RL :=
  match r with
  | .ok d vs st => .ok (c ∧ d) (v :: vs) st
  | .fail => .fail
def keepLR : List AE → St → RL
  | [], st => .ok True [] st
  | x :: r, st => match keepR st (ev st x) with
    | .ok c v st1 => rl2 c v (keepLR r st1)
    | .fail => .fail
def rl1 (r : List AE) (s : RS) : RL :=
  match s with
  | .ok c v st1 => rl2 c v (keepLR r st1)
  | .fail => .fail
theorem keepLR_nil (st : St) : keepLR [] st = .ok True [] st := rfl
theorem keepLR_cons (x : AE) (r : List AE) (st : St) : keepLR (x :: r) st = rl1 r (keepR st (ev st x)) := rfl
theorem keepR_To {st : St} {v : AV} {K : AV → St → Prop} (h : (keepR st v).To K) : keepV st v K := by
  unfold keepR at h
  unfold keepV
  split at h
  · unfold keepSl at h
    split at h
    · rename_i e; simp only [e]; exact h.2
    · exact h.elim
  · obtain ⟨⟨h1, h2⟩, h3⟩ := h
    split
    · rename_i hne; exact (hne _ _ _ rfl).elim
    · exact ⟨h1, h2, h3⟩
theorem keepR_of {st : St} {v v' : AV} {st' : St} {c : Prop} {K : AV → St → Prop} (h : keepR st v = .ok c v' st') (hc : c) (hk : K v' st') : keepV st v K :=
  keepR_To (by rw [h]; exact ⟨hc, hk⟩)
theorem keepLR_of : ∀ (l : List AE) {st st' : St} {c : Prop} {vs : List AV} {K : List AV → St → Prop}, keepLR l st = .ok c vs st' → c → K vs st' → keepL st l K
  | [], st, st', c, vs, K, h, hc, hk => by
    simp only [keepLR, RL.ok.injEq] at h
    obtain ⟨_, rfl, rfl⟩ := h
    exact hk
  | x :: r, st, st', c, vs, K, h, hc, hk => by
    simp only [keepLR] at h
    split at h
    · rename_i c1 v st1 e1
      unfold rl2 at h
      split at h
      · rename_i d vs' st2 e2
        simp only [RL.ok.injEq] at h
        obtain ⟨rfl, rfl, rfl⟩ := h
        exact keepR_of e1 hc.1 (keepLR_of r e2 hc.2 hk)
      · cases h
    · cases h
def bslR (id sz : Nat) (r : RL) : RS :=
  match r with
  | .ok c es st' => .ok (c ∧ es.all (fun e => (cellsOf e).length == sz) = true) (.sl id 0 es.length) (newW st' id (.arr sz es))
  | .fail => .fail
def appW (st : St) (sz bytes id off n : Nat) (xs : List AV) (W : Option Win) : RS :=
  match W with
  | some (.arr sz' es) => .ok (xs.all cellsOK = true ∧ sz' = sz ∧ (sub3 es off n).all cellsOK = true ∧ (n + xs.length) * bytes ≤ 140737488355328 ∧ n + xs.length ≤ 9223372036854775807) (.sl id 0 (n + xs.length)) (newW st id (.arr sz (sub3 es off n ++ xs)))
  | _ => .fail
def appR (d : Nat) (st : St) (sz bytes : Nat) (s : AV) (xs : Option (List AV)) : RS :=
  match xs, s with
  | some xs, .nilsl => .ok (xs.all cellsOK = true ∧ xs.length * bytes ≤ 140737488355328 ∧ xs.length ≤ 9223372036854775807) (.sl d 0 xs.length) (newW st d (.arr sz xs))
  | some xs, .sl id off n => appW st sz bytes id off n xs (hget st.h id)
  | _, _ => .fail
theorem appR_To {d : Nat} {st : St} {sz bytes : Nat} {s x : AV} {K : AV → St → Prop} (h : (appR d st sz bytes s (srcE sz st x)).To K) : effApp d st sz bytes s x K := by
  unfold appR at h
  unfold effApp
  split at h
  · rename_i e
    simp only [e]
    exact ⟨h.1.1, h.1.2.1, h.1.2.2, h.2⟩
  · rename_i e
    unfold appW at h
    split at h
    · rename_i e2
      simp only [e, e2]
      exact ⟨h.1.1, h.1.2.1, h.1.2.2.1, h.1.2.2.2.1, h.1.2.2.2.2, h.2⟩
    · exact h.elim
  · exact h.elim
def stW (st : St) (n id i f : Nat) (v : AV) (W : Option Win) : RS :=
  match W with
  | some (.arr sz es) => .ok ((cellsOf v).length = n ∧ 0 < n ∧ f + n ≤ sz) .undef ⟨st.s, hset st.h id (.arr sz (es.set i (setEl (nth es i) f v)))⟩
  | _ => .fail
def stP2 (n id i f : Nat) (c : Prop) (v : AV) (st : St) (r : RS) : RS :=
  match r with
  | .ok d u st' => .ok (c ∧ d) u st'
  | .fail => .fail
def stP (n id i f : Nat) (r : RS) : RS :=
  match r with
  | .ok c v st => stP2 n id i f c v st (stW st n id i f v (hget st.h id))
  | .fail => .fail
def stV (st : St) (n id f : Nat) (v : AV) (W : Option Win) : RS :=
  match W with
  | some (.var cs) => .ok (cellsOK v = true ∧ (cellsOf v).length = n ∧ f + n ≤ cs.length) .undef ⟨st.s, hset st.h id (.var (seg cs f (cellsOf v)))⟩
  | _ => .fail
def stR (st : St) (n : Nat) (x v : AV) : RS :=
  match x with
  | .ptr id i f => stP n id i f (keepR st v)
  | .vptr id f => stV st n id f v (hget st.h id)
  | _ => .fail
theorem stR_To {st : St} {n : Nat} {x v : AV} {K : AV → St → Prop} (h : (stR st n x v).To K) : effSt st n x v K := by
  unfold stR at h
  unfold effSt
  split at h
  · unfold stP at h
    split at h
    · rename_i c v' st' e
      unfold stP2 at h
      split at h
      · rename_i d u st2 e2
        unfold stW at e2
        split at e2
        · rename_i e3
          simp only [RS.ok.injEq] at e2
          obtain ⟨rfl, rfl, rfl⟩ := e2
          obtain ⟨⟨h1, h2, h3, h4⟩, h5⟩ := h
          exact keepR_of e h1 ⟨h2, h3, by simp only [e3]; exact ⟨h4, h5⟩⟩
        · cases e2
      · exact h.elim
    · exact h.elim
  · unfold stV at h
    split at h
    · rename_i e
      simp only [e]
      exact ⟨h.1.1, h.1.2.1, h.1.2.2, h.2⟩
    · exact h.elim
  · exact h.elim
def stbR (st : St) (id : Nat) (v : AV) : RS :=
  match v with
  | .str l => .ok True (.sl id 0 l.length) (newW st id (.arr 1 (l.map ub)))
  | _ => .fail
def effR (id : Nat) (st : St) (o : AO) : RS :=
  match o with
  | .alloc z => .ok (z.all noRefC = true) (.vptr id 0) (newW st id (.var (z.map (killC id))))
  | .box n x => .ok (cellsOK (ev st x) = true ∧ (cellsOf (ev st x)).length = n) (.vptr id 0) (newW st id (.var ((cellsOf (ev st x)).map (killC id))))
  | .bsl sz xs => bslR id sz (keepLR xs st)
  | .app sz bytes s x => appR id st sz bytes (ev st s) (srcE sz st (ev st x))
  | .st n x v => stR st n (ev st x) (ev st v)
  | .stb x => stbR st id (ev st x)
  | _ => .fail
theorem effR_To {id : Nat} {st : St} {o : AO} {K : AV → St → Prop} (h : (effR id st o).To K) : eff id st o K := by
  unfold effR at h
  unfold eff
  split at h
  · exact h
  · exact ⟨h.1.1, h.1.2, h.2⟩
  · unfold bslR at h
    split at h
    · rename_i e; exact keepLR_of _ e h.1.1 ⟨h.1.2, h.2⟩
    · exact h.elim
  · exact appR_To h
  · exact stR_To h
  · unfold stbR at h
    split at h
    · rename_i e; simp only [e]; exact h.2
    · exact h.elim
  · exact h.elim
end Go.Proofs.YtgkcbhdpenmogaaDoor.Eng
