/- The proof, part 12 of 24. -/
import Derived.Test.YtjoefngnjoofeaaDoorPackOneK
import Derived.Test.YtjoefngnjoofeaaDoorRows
set_option linter.all false
namespace Go.Proofs.YtjoefngnjoofeaaDoor
open Go.ChangeShapes Go.WideShapes Go.ChangeAt Go.RowKit Go.Lib Go.Deep
namespace Row
open Eng
set_option maxRecDepth 10000
theorem RVs.append {W : World} : ∀ {vs us : List Value} {xs ys : List AV}, RVs W vs xs → RVs W us ys → RVs W (vs ++ us) (xs ++ ys)
 | [], _, [], _, _, h => h
 | _ :: _, _, _ :: _, _, h, k => ⟨h.1, RVs.append h.2 k⟩
theorem RVs.agg {W : World} {vs : List Value} {xs : List AV} (h : RVs W vs xs) : RV (fun _ => False) W noLoc (.agg vs.toArray) (.agg xs) :=
 .agg _ _ _ (by simpa using h.len) (fun j v x h1 h2 => h.get j v x (by simpa using h1) h2)
structure Opens (t : TypeId) (α : Type) (cells : α → List AV) (B : α → Prop) (M : α → Nat) : Prop where
 op : ∀ {H : Type} {enc : TypeId × Value → H} {W : World} {fuel : Nat} {cs : List Value} {d : DataW H} {p : List MemPlace},
  DataW.trod enc Tryd.prog W 0 (fun _ => true) true fuel t cs = some (d, p) → (∀ n ∈ d.weights Tryd.prog t, n ≤ reachBytes) →
  ∃ a : α, B a ∧ M a + 1 ≤ Rows.uptoBulk d ∧ RVs W cs (cells a)
theorem opens_int {t : TypeId} (ht : Tryd.prog.underlying t = some (.int .i64)) : Opens t Int (fun n => [.int .i64 n]) (fun n => -9223372036854775808 ≤ n ∧ n ≤ 9223372036854775807) (fun _ => 0) := by
 constructor
 intro H enc W fuel cs d p h _
 obtain ⟨n, e1, e2, e3⟩ := DataW.trod_int ht h
 simp only [Prod.mk.injEq] at e2
 obtain ⟨rfl, rfl⟩ := e2
 subst e1
 exact ⟨n, i64_in e3, Nat.le_refl _, .cons rv_int .nil⟩
theorem opens_str {t : TypeId} (ht : Tryd.prog.underlying t = some .string) : Opens t (List UInt8) (fun s => [.str s]) (fun s => s.length ≤ 140737488351232) (fun s => s.length) := by
 constructor
 intro H enc W fuel cs d p h hw
 obtain ⟨s, e1, e2, e3⟩ := DataW.trod_string ht h
 simp only [Prod.mk.injEq] at e2
 obtain ⟨rfl, rfl⟩ := e2
 subst e1
 exact ⟨s.data.toList, hw _ (by simp [DataW.weights]), Nat.le_refl _, .cons (rv_str s) .nil⟩
theorem Opens.map {t : TypeId} {α β : Type} {cells : α → List AV} {B : α → Prop} {M : α → Nat} (h : Opens t α cells B M) (f : α → β) {cells' : β → List AV} {B' : β → Prop} {M' : β → Nat} (hc : ∀ a, cells a = cells' (f a)) (hB : ∀ a, B a → B' (f a)) (hM : ∀ a, M' (f a) ≤ M a) : Opens t β cells' B' M' := by
 constructor
 intro H enc W fuel cs d p h1 h2
 obtain ⟨a, g1, g2, g3⟩ := h.op h1 h2
 exact ⟨f a, hB a g1, by have := hM a; omega, by rw [← hc]; exact g3⟩
def FR {H : Type} (enc : TypeId × Value → H) (W : World) (n : Nat) : List Field → List Value → List (DataW H) → Prop
 | [], _, [] => True
 | f :: fs, cs, d :: ds => (∃ p, DataW.trod enc Tryd.prog W 0 (fun _ => true) true n f.type ((cs.drop f.offset).take (Tryd.prog.cellsOf f.type)) = some (d, p)) ∧ FR enc W n fs cs ds
 | _, _, _ => False
theorem fr_of {H : Type} {enc : TypeId × Value → H} {W : World} {n : Nat} {cs : List Value} : ∀ {fs : List Field} {xs : List (DataW H × List MemPlace)}, xs.length = fs.length →
    (∀ (i : Nat) (f : Field), fs[i]? = some f → DataW.trod enc Tryd.prog W 0 (fun _ => true) true n f.type ((cs.drop f.offset).take (Tryd.prog.cellsOf f.type)) = xs[i]?) → FR enc W n fs cs (xs.map (·.1))
 | [], [], _, _ => trivial
 | f :: fs, x :: xs, hl, h => by
  refine ⟨⟨x.2, h 0 f rfl⟩, fr_of (by simpa using hl) (fun i g hg => ?_)⟩
  have := h (i + 1) g (by simpa using hg)
  simpa using this
structure FO (fs : List Field) (o e : Nat) (α : Type) (cells : α → List AV) (B : α → Prop) (M : α → Nat) : Prop where
 op : ∀ {H : Type} {enc : TypeId × Value → H} {W : World} {n : Nat} {cs : List Value} {ds : List (DataW H)}, cs.length = e → FR enc W n fs cs ds → (∀ m ∈ DataW.weightsEach Tryd.prog (fs.map (·.type)) ds, m ≤ reachBytes) →
  ∃ a : α, B a ∧ M a ≤ Rows.uptoBulkAll ds ∧ RVs W (cs.drop o) (cells a)
theorem fo_nil {e : Nat} : FO [] e e Unit (fun _ => []) (fun _ => True) (fun _ => 0) := by
 constructor
 intro H enc W n cs ds hl h _
 match ds, h with
 | [], _ => exact ⟨(), trivial, Nat.zero_le _, by rw [List.drop_of_length_le (by omega)]; exact .nil⟩
theorem fo_cons {f : Field} {fs : List Field} {o e k : Nat} {α β : Type} {ca : α → List AV} {Ba : α → Prop} {Ma : α → Nat} {cb : β → List AV} {Bb : β → Prop} {Mb : β → Nat}
    (h : Opens f.type α ca Ba Ma) (hf : f.offset = o) (hk : Tryd.prog.cellsOf f.type = k) (hr : FO fs (o + k) e β cb Bb Mb) : FO (f :: fs) o e (α × β) (fun a => ca a.1 ++ cb a.2) (fun a => Ba a.1 ∧ Bb a.2) (fun a => Ma a.1 + 1 + Mb a.2) := by
 constructor
 intro H enc W n cs ds hl hF hw
 match ds, hF with
 | d :: ds, hF =>
  obtain ⟨⟨p, h1⟩, h2⟩ := hF
  simp only [List.map_cons, DataW.weightsEach, List.mem_append] at hw
  obtain ⟨a, a1, a2, a3⟩ := h.op h1 (fun m hm => hw m (.inl hm))
  obtain ⟨b, b1, b2, b3⟩ := hr.op hl h2 (fun m hm => hw m (.inr hm))
  refine ⟨(a, b), ⟨a1, b1⟩, by simp only [Rows.uptoBulkAll]; omega, ?_⟩
  have e1 : cs.drop o = (cs.drop o).take k ++ cs.drop (o + k) := by
   rw [← List.drop_drop, List.take_append_drop]
  rw [e1]
  rw [hf, hk] at a3
  exact a3.append b3
theorem opens_struct {t : TypeId} {fs : Array Field} {l : List Field} {e : Nat} {α : Type} {cells : α → List AV} {B : α → Prop} {M : α → Nat} (ht : Tryd.prog.underlying t = some (.struct fs)) (hl : fs.toList = l) (hc : Tryd.prog.cellsOf t = e) (h : FO l 0 e α cells B M) : Opens t α cells B M := by
 constructor
 intro H enc W fuel cs d p h1 h2
 obtain ⟨xs, n, _, hx, hlen, hsz, hxs⟩ := DataW.trod_struct ht h1
 simp only [Prod.mk.injEq] at hx
 obtain ⟨rfl, rfl⟩ := hx
 have hF : FR enc W n fs.toList cs (xs.map (·.1)) := fr_of (by simpa using hsz) (fun i f hf => hxs i f (by simpa using hf))
 rw [hl] at hF
 simp only [DataW.weights, ht, hl] at h2
 obtain ⟨a, a1, a2, a3⟩ := h.op (by rw [hlen, hc]) hF h2
 refine ⟨a, a1, by simp only [Rows.uptoBulk]; omega, ?_⟩
 rw [List.drop_zero] at a3
 exact a3
theorem flat_get {sz : Nat} (hz : 0 < sz) : ∀ {es : List AV}, (∀ e ∈ es, (Eng.cellsOf e).length = sz) → ∀ j, (flat es)[j]? = (es[j / sz]?).bind fun e => (Eng.cellsOf e)[j % sz]?
 | [], _, j => by simp [flat]
 | x :: es, h, j => by
  have hx := h x (List.mem_cons_self ..)
  rw [flat, List.flatMap_cons]
  by_cases hj : j < sz
  ·rw [List.getElem?_append_left (by omega), Nat.div_eq_of_lt hj, Nat.mod_eq_of_lt hj]; rfl
  ·have ih := flat_get hz (es := es) (fun e he => h e (List.mem_cons_of_mem _ he)) (j - sz)
   rw [List.getElem?_append_right (by omega), hx]
   rw [show List.flatMap Eng.cellsOf es = flat es from rfl, ih]
   obtain ⟨k, rfl⟩ : ∃ k, j = k + sz := ⟨j - sz, by omega⟩
   rw [Nat.add_sub_cancel, Nat.add_div_right _ hz, Nat.add_mod_right]
   rfl
section
variable {H : Type} {enc : TypeId × Value → H} {W : World} {base : Nat} {v : Value} {d : DataW H} {p : List MemPlace} {t : TypeId} {α : Type} {cells : α → List AV} {B : α → Prop} {M : α → Nat}
theorem arg_struct {fs : Array Field} (ht : Tryd.prog.underlying t = some (.struct fs)) (ho : Opens t α cells B M) (hv : Value.okWide Tryd.prog W .any base t v) (h : DataW.Trod enc Tryd.prog W 0 (fun _ => true) true t v d p) (hw : ∀ n ∈ d.weights Tryd.prog t, n ≤ reachBytes) :
    ∃ a : α, B a ∧ M a + 1 ≤ Rows.uptoBulk d ∧ RV (fun _ => False) W noLoc v (.agg (cells a)) := by
 obtain ⟨cs, rfl, hc⟩ := okWide_struct ht hv
 obtain ⟨fuel, hf⟩ := h
 obtain ⟨a, a1, a2, a3⟩ := ho.op hf hw
 refine ⟨a, a1, a2, ?_⟩
 have := a3.agg
 simpa [Value.cells] using this
theorem wt {P : Program} {ts : List TypeId} {ds : List (DataW H)} (h : (DataW.weightsEach P ts ds).all (· ≤ reachBytes) = true) {j : Nat} {t : TypeId} {d : DataW H} (ht : ts[j]? = some t) (hd : ds[j]? = some d) : ∀ n ∈ d.weights P t, n ≤ reachBytes := by
 intro n hn
 have := List.all_eq_true.1 h _ (DataW.weights_mem_each ht hd n hn)
 simpa using this
end
end Row
end Go.Proofs.YtjoefngnjoofeaaDoor
