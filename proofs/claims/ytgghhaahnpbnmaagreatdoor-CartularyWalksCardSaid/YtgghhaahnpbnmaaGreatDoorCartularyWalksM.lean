/- The proof, part 13 of 51. -/
import Derived.Test.YtgghhaahnpbnmaaGreatDoorCartularyWalksL
import Derived.Test.YtgghhaahnpbnmaaGreatDoorRows
set_option linter.all false
namespace Go.Proofs.YtgghhaahnpbnmaaGreatDoor
open Go.ChangeShapes Go.WideShapes Go.ChangeAt Go.RowKit Go.Lib Go.Deep
namespace Row
open Eng
set_option maxRecDepth 10000
theorem c8.append {W : World} : ∀ {vs us : List Value} {xs ys : List AV}, c8 W vs xs → c8 W us ys → c8 W (vs ++ us) (xs ++ ys)
 | [], _, [], _, _, h => h
 | _ :: _, _, _ :: _, _, h, k => ⟨h.1, c8.append h.2 k⟩
theorem c8.agg {W : World} {vs : List Value} {xs : List AV} (h : c8 W vs xs) : RV (fun _ => False) W aW (.agg vs.toArray) (.agg xs) :=
 .agg _ _ _ (by simpa using h.len) (fun j v x h1 h2 => h.get j v x (by simpa using h1) h2)
structure jP (t : TypeId) (α : Type) (cells : α → List AV) (B : α → Prop) (M : α → Nat) : Prop where
 op : ∀ {H : Type} {enc : TypeId × Value → H} {W : World} {fuel : Nat} {cs : List Value} {d : DataW H} {p : List MemPlace},
  DataW.trod enc Tryz.prog W 0 (fun _ => true) true fuel t cs = some (d, p) → (∀ n ∈ d.weights Tryz.prog t, n ≤ reachBytes) →
  ∃ a : α, B a ∧ M a + 1 ≤ Rows.uptoBulk d ∧ c8 W cs (cells a)
theorem VO {t : TypeId} (ht : Tryz.prog.underlying t = some (.int .i64)) : jP t Int (fun n => [.int .i64 n]) (fun n => -9223372036854775808 ≤ n ∧ n ≤ 9223372036854775807) (fun _ => 0) := by
 constructor
 intro H enc W fuel cs d p h _
 obtain ⟨n, e1, e2, e3⟩ := DataW.trod_int ht h
 simp only [Prod.mk.injEq] at e2
 obtain ⟨rfl, rfl⟩ := e2
 subst e1
 exact ⟨n, i64_in e3, Nat.le_refl _, .cons Yz .nil⟩
theorem jP.map {t : TypeId} {α β : Type} {cells : α → List AV} {B : α → Prop} {M : α → Nat} (h : jP t α cells B M) (f : α → β) {cells' : β → List AV} {B' : β → Prop} {M' : β → Nat} (hc : ∀ a, cells a = cells' (f a)) (hB : ∀ a, B a → B' (f a)) (hM : ∀ a, M' (f a) ≤ M a) : jP t β cells' B' M' := by
 constructor
 intro H enc W fuel cs d p h1 h2
 obtain ⟨a, g1, g2, g3⟩ := h.op h1 h2
 exact ⟨f a, hB a g1, by have := hM a; omega, by rw [← hc]; exact g3⟩
def FR {H : Type} (enc : TypeId × Value → H) (W : World) (n : Nat) : List Field → List Value → List (DataW H) → Prop
 | [], _, [] => True
 | f :: fs, cs, d :: ds => (∃ p, DataW.trod enc Tryz.prog W 0 (fun _ => true) true n f.type ((cs.drop f.offset).take (Tryz.prog.cellsOf f.type)) = some (d, p)) ∧ FR enc W n fs cs ds
 | _, _, _ => False
structure FO (fs : List Field) (o e : Nat) (α : Type) (cells : α → List AV) (B : α → Prop) (M : α → Nat) : Prop where
 op : ∀ {H : Type} {enc : TypeId × Value → H} {W : World} {n : Nat} {cs : List Value} {ds : List (DataW H)}, cs.length = e → FR enc W n fs cs ds → (∀ m ∈ DataW.weightsEach Tryz.prog (fs.map (·.type)) ds, m ≤ reachBytes) →
  ∃ a : α, B a ∧ M a ≤ Rows.uptoBulkAll ds ∧ c8 W (cs.drop o) (cells a)
theorem acz {f : Field} {fs : List Field} {o e k : Nat} {α β : Type} {ca : α → List AV} {Ba : α → Prop} {Ma : α → Nat} {cb : β → List AV} {Bb : β → Prop} {Mb : β → Nat}
    (h : jP f.type α ca Ba Ma) (hf : f.offset = o) (hk : Tryz.prog.cellsOf f.type = k) (hr : FO fs (o + k) e β cb Bb Mb) : FO (f :: fs) o e (α × β) (fun a => ca a.1 ++ cb a.2) (fun a => Ba a.1 ∧ Bb a.2) (fun a => Ma a.1 + 1 + Mb a.2) := by
 constructor
 intro H enc W n cs ds hl hF hw
 match ds, hF with
 | d :: ds, hF =>
  obtain ⟨⟨p, h1⟩, h2⟩ := hF
  simp only [List.map_cons, DataW.weightsEach, List.mem_append] at hw
  obtain ⟨a, a1, a2, a3⟩ := h.op h1 (fun m hm => hw m (.inl hm))
  obtain ⟨b, b1, b2, b3⟩ := hr.op hl h2 (fun m hm => hw m (.inr hm))
  refine ⟨(a, b), ⟨a1, b1⟩, by simp only [Rows.uptoBulkAll]; omega, ?_⟩
  have e1 : cs.drop o = (cs.drop o).take k ++ cs.drop (o + k) := by
   rw [← List.drop_drop, List.take_append_drop]
  rw [e1]
  rw [hf, hk] at a3
  exact a3.append b3
theorem A4 {H : Type} {α : Type} (M : α → Nat) : ∀ {l : List α} {ds : List (DataW H)}, l.length = ds.length → (∀ (i : Nat) a d, l[i]? = some a → ds[i]? = some d → M a + 1 ≤ Rows.uptoBulk d) → (l.map (fun a => M a + 1)).sum ≤ Rows.uptoBulkAll ds
 | [], [], _, _ => by simp [Rows.uptoBulkAll]
 | a :: l, d :: ds, hl, h => by
  have h0 := h 0 a d rfl rfl
  have h1 := A4 M (l := l) (ds := ds) (by simpa using hl) (fun i a' d' e1 e2 => h (i + 1) a' d' (by simpa using e1) (by simpa using e2))
  simp only [List.map_cons, List.sum_cons, Rows.uptoBulkAll]
  omega
theorem iQ {sz : Nat} (hz : 0 < sz) : ∀ {es : List AV}, (∀ e ∈ es, (Eng.cellsOf e).length = sz) → ∀ j, (flat es)[j]? = (es[j / sz]?).bind fun e => (Eng.cellsOf e)[j % sz]?
 | [], _, j => by simp [flat]
 | x :: es, h, j => by
  have hx := h x (List.mem_cons_self ..)
  rw [flat, List.flatMap_cons]
  by_cases hj : j < sz
  ·rw [List.getElem?_append_left (by omega), Nat.div_eq_of_lt hj, Nat.mod_eq_of_lt hj]; rfl
  ·have ih := iQ hz (es := es) (fun e he => h e (List.mem_cons_of_mem _ he)) (j - sz)
   rw [List.getElem?_append_right (by omega), hx]
   rw [show List.flatMap Eng.cellsOf es = flat es from rfl, ih]
   obtain ⟨k, rfl⟩ : ∃ k, j = k + sz := ⟨j - sz, by omega⟩
   rw [Nat.add_sub_cancel, Nat.add_div_right _ hz, Nat.add_mod_right]
   rfl
theorem KH {n k : Nat} (a : Addr) (h : a.spot = none) : (a.add n).add k = a.add (n + k) := add_add a n k h
theorem Ey {t e : TypeId} {sz by' : Nat} {α : Type} {ca : α → List AV} {B : α → Prop} {M : α → Nat} (ht : Tryz.prog.underlying t = some (.slice e)) (hz : Tryz.prog.cellsOf e = sz) (hz0 : 0 < sz) (hb : Tryz.prog.bytesOf e = by') (h : jP e α ca B M)
    (av : α → AV) (hav : ∀ a, Eng.cellsOf (av a) = ca a) (hlen : ∀ a, (ca a).length = sz) :
    jP t (List α) (fun l => [.ro sz (l.map av)]) (fun l => l.length * by' ≤ 140737488351232 ∧ l.length ≤ 9223372036854775807 ∧ ∀ a ∈ l, B a) (fun l => (l.map (fun a => M a + 1)).sum) := by
 constructor
 intro H enc W fuel cs d p h1 h2
 rcases open_slice ht h1 with ⟨rfl, hx⟩ | ⟨A, len, cap, m, n, D, Pl, rfl, _, hl, hm, hmm, hx, hrows⟩
 ·simp only [Prod.mk.injEq] at hx
  obtain ⟨rfl, rfl⟩ := hx
  exact ⟨[], ⟨by simp, by simp, by simp⟩, by simp [Rows.uptoBulk], .cons (RV.s9 (.an _) (.nil sz)) .nil⟩
 ·simp only [Prod.mk.injEq] at hx
  obtain ⟨rfl, rfl⟩ := hx
  have hml : len ≤ m := by simp at hmm; omega
  simp only [DataW.weights, ht] at h2
  have hone : ∀ i, i < len → ∃ q : α × List Value, B q.1 ∧ M q.1 + 1 ≤ Rows.uptoBulk (D i) ∧ c8 W q.2 (ca q.1) ∧ q.2.length = sz ∧ ∀ k, k < sz → W.cell? ((A.add (i * sz)).add k) = q.2[k]? := by
   intro i hi
   obtain ⟨cs', g1, g2⟩ := hrows i (by omega)
   rw [hz] at g1
   obtain ⟨_, g3, g4⟩ := World.cells?_some g1
   have hmem : ∀ w ∈ (D i).weights Tryz.prog e, w ≤ reachBytes := by
    intro w hw
    refine h2 w (List.mem_cons_of_mem _ (List.mem_append_left _ ?_))
    have : ∀ (l : List (DataW H)), D i ∈ l → w ∈ DataW.weightsAll Tryz.prog e l := by
     intro l
     induction l with
     | nil => intro hd; cases hd
     | cons x r ih =>
      intro hd
      simp only [DataW.weightsAll, List.mem_append]
      rcases List.mem_cons.1 hd with rfl | hd
      ·exact .inl hw
      ·exact .inr (ih hd)
    exact this _ (List.mem_map.2 ⟨i, List.mem_range.2 hi, rfl⟩)
   obtain ⟨a, a1, a2, a3⟩ := h.op g2 hmem
   exact ⟨(a, cs'), a1, a2, a3, g3, g4⟩
  by_cases h0 : len = 0
  ·subst h0
   refine ⟨[], ⟨by simp, by simp, by simp⟩, by simp [Rows.uptoBulk], .cons ?_ .nil⟩
   exact .ro _ _ _ _ [] [] (by simp) (by simp) rfl (by simp) (by simp)
  haveI : Inhabited (α × List Value) := ⟨(hone 0 (by omega)).choose⟩
  obtain ⟨F, hF⟩ := choose_lt hone
  have hspot : A.spot = none := by
   have h00 := (hF 0 (by omega)).2.2.2.2 0 hz0
   rw [Nat.zero_mul, Addr.add_zero', Addr.add_zero'] at h00
   have hlt : 0 < (F 0).2.length := by rw [(hF 0 (by omega)).2.2.2.1]; exact hz0
   rw [List.getElem?_eq_getElem hlt] at h00
   exact World.cell?_spot h00
  have hw0 := h2 _ (List.mem_cons_self ..)
  rw [List.length_map, List.length_range, List.length_map, List.length_range, hb] at hw0
  have hlw : len * by' ≤ 140737488351232 := Nat.le_trans (Nat.mul_le_mul_right _ (by omega)) hw0
  refine ⟨(List.range len).map fun i => (F i).1, ⟨by simpa using hlw, by simp; unfold maxLen at hm; omega, ?_⟩, ?_, .cons ?_ .nil⟩
  ·intro a ha
   obtain ⟨i, hi, rfl⟩ := List.mem_map.1 ha
   exact (hF i (List.mem_range.1 hi)).1
  ·simp only [Rows.uptoBulk]
   have := A4 M (l := (List.range len).map fun i => (F i).1) (ds := (List.range len).map D) (by simp) (fun i a d' e1 e2 => by
    rw [List.getElem?_map] at e1 e2
    obtain ⟨i1, r1, rfl⟩ := Option.map_eq_some_iff.1 e1
    obtain ⟨i2, r2, rfl⟩ := Option.map_eq_some_iff.1 e2
    rw [r1] at r2
    obtain rfl := Option.some.inj r2
    have hi1 : i1 < len := List.mem_range.1 (List.mem_of_getElem? r1)
    exact (hF i1 hi1).2.1)
   omega
  ·have hcl : ∀ x ∈ ((List.range len).map fun i => (F i).1).map av, (Eng.cellsOf x).length = sz := by
    intro x hx
    obtain ⟨a, _, rfl⟩ := List.mem_map.1 hx
    rw [hav, hlen]
   have hvl : ∀ j, ((List.range len).flatMap fun i => (F i).2)[j]? = if j < len * sz then (F (j / sz)).2[j % sz]? else none := by
    have : ∀ (L : List Nat), (∀ i ∈ L, i < len) → ∀ j, (L.flatMap fun i => (F i).2)[j]? = (L[j / sz]?).bind fun i => (F i).2[j % sz]? := by
     intro L
     induction L with
     | nil => intro _ j; simp
     | cons x r ih =>
      intro hL j
      have hx := (hF x (hL x (List.mem_cons_self ..))).2.2.2.1
      rw [List.flatMap_cons]
      by_cases hj : j < sz
      ·rw [List.getElem?_append_left (by omega), Nat.div_eq_of_lt hj, Nat.mod_eq_of_lt hj]; rfl
      ·rw [List.getElem?_append_right (by omega), hx, ih (fun i hi => hL i (List.mem_cons_of_mem _ hi))]
       obtain ⟨k, rfl⟩ : ∃ k, j = k + sz := ⟨j - sz, by omega⟩
       rw [Nat.add_sub_cancel, Nat.add_div_right _ hz0, Nat.add_mod_right]
       rfl
    intro j
    rw [this _ (fun i hi => List.mem_range.1 hi) j]
    by_cases hj : j < len * sz
    ·have : j / sz < len := (Nat.div_lt_iff_lt_mul hz0).2 hj
     rw [if_pos hj, List.getElem?_range this]; rfl
    ·have : ¬ j / sz < len := fun hc => hj ((Nat.div_lt_iff_lt_mul hz0).1 hc)
     rw [if_neg hj, List.getElem?_eq_none (by simp; omega)]; rfl
   have hfl : (flat (((List.range len).map fun i => (F i).1).map av)).length = len * sz := by
    rw [dY hcl]; simp
   have hvlen : ((List.range len).flatMap fun i => (F i).2).length = len * sz := by
    have : ∀ (L : List Nat), (∀ i ∈ L, i < len) → (L.flatMap fun i => (F i).2).length = L.length * sz := by
     intro L
     induction L with
     | nil => intro _; simp
     | cons x r ih =>
      intro hL
      rw [List.flatMap_cons, List.length_append, (hF x (hL x (List.mem_cons_self ..))).2.2.2.1, ih (fun i hi => hL i (List.mem_cons_of_mem _ hi)), List.length_cons, Nat.succ_mul, Nat.add_comm]
    rw [this _ (fun i hi => List.mem_range.1 hi), List.length_range]
   have := RV.ro (X := fun _ => False) (w := W) aW (some A) cap sz (((List.range len).map fun i => (F i).1).map av) ((List.range len).flatMap fun i => (F i).2) (by simpa using hl) hcl (by rw [hfl, hvlen])
    (fun j hj => by
     rw [hvlen] at hj
     have hd : j / sz < len := (Nat.div_lt_iff_lt_mul hz0).2 hj
     have hmod := Nat.mod_lt j hz0
     refine ⟨A, rfl, hspot, fun h => h, ?_⟩
     have hc := (hF (j / sz) hd).2.2.2.2 (j % sz) hmod
     rw [KH A hspot, Nat.mul_comm, Nat.div_add_mod] at hc
     rw [hc, hvl, if_pos hj])
    (fun j v x e1 e2 => by
     rw [hvl] at e1
     by_cases hj : j < len * sz
     ·have hd : j / sz < len := (Nat.div_lt_iff_lt_mul hz0).2 hj
      rw [if_pos hj] at e1
      rw [iQ hz0 hcl, List.getElem?_map, List.getElem?_map, List.getElem?_range hd] at e2
      simp only [Option.map_some, Option.bind_some, hav] at e2
      exact (hF (j / sz) hd).2.2.1.get (j % sz) v x e1 e2
     ·rw [if_neg hj] at e1; cases e1)
   simpa using this
section
variable {H : Type} {enc : TypeId × Value → H} {W : World} {base : Nat} {v : Value} {d : DataW H} {p : List MemPlace} {t : TypeId} {α : Type} {cells : α → List AV} {B : α → Prop} {M : α → Nat}
theorem IK {e : TypeId} {av : α → AV} (ht : Tryz.prog.underlying t = some (.slice e)) (ho : jP t α (fun a => [av a]) B M) (hv : Value.okWide Tryz.prog W .any base t v) (h : DataW.Trod enc Tryz.prog W 0 (fun _ => true) true t v d p) (hw : ∀ n ∈ d.weights Tryz.prog t, n ≤ reachBytes) :
    ∃ a : α, B a ∧ M a + 1 ≤ Rows.uptoBulk d ∧ RV (fun _ => False) W aW v (av a) := by
 obtain ⟨A, len, cap, rfl⟩ := okWide_slice ht hv
 obtain ⟨fuel, hf⟩ := h
 obtain ⟨a, a1, a2, a3⟩ := ho.op hf hw
 have : c8 W [.slice A len cap] [av a] := a3
 exact ⟨a, a1, a2, this.1⟩
theorem wt {P : Program} {ts : List TypeId} {ds : List (DataW H)} (h : (DataW.weightsEach P ts ds).all (· ≤ reachBytes) = true) {j : Nat} {t : TypeId} {d : DataW H} (ht : ts[j]? = some t) (hd : ds[j]? = some d) : ∀ n ∈ d.weights P t, n ≤ reachBytes := by
 intro n hn
 have := List.all_eq_true.1 h _ (DataW.weights_mem_each ht hd n hn)
 simpa using this
end
end Row
end Go.Proofs.YtgghhaahnpbnmaaGreatDoor
