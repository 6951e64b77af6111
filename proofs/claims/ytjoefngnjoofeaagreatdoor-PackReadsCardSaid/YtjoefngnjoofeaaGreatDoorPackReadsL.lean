/- The proof, part 12 of 23. -/
import Derived.Test.YtjoefngnjoofeaaGreatDoorPackReadsK
import Derived.Test.YtjoefngnjoofeaaGreatDoorRows
set_option linter.all false
namespace Go.Proofs.YtjoefngnjoofeaaGreatDoor
open Go.ChangeShapes Go.WideShapes Go.ChangeAt Go.RowKit Go.Lib Go.Deep
namespace Row
open Eng
set_option maxRecDepth 10000
theorem RVs.append {W : World} : ∀ {vs us : List Value} {xs ys : List AV}, RVs W vs xs → RVs W us ys → RVs W (vs ++ us) (xs ++ ys)
 | [], _, [], _, _, h => h
 | _ :: _, _, _ :: _, _, h, k => ⟨h.1, RVs.append h.2 k⟩
theorem RVs.agg {W : World} {vs : List Value} {xs : List AV} (h : RVs W vs xs) : RV (fun _ => False) W noLoc (.agg vs.toArray) (.agg xs) :=
 .agg _ _ _ (by simpa using h.len) (fun j v x h1 h2 => h.get j v x (by simpa using h1) h2)
structure Opens (t : TypeId) (α : Type) (cells : α → List AV) (B : α → Prop) (M : α → Nat) : Prop where
 op : ∀ {H : Type} {enc : TypeId × Value → H} {W : World} {fuel : Nat} {cs : List Value} {d : DataW H} {p : List MemPlace},
  DataW.trod enc Tryz.prog W 0 (fun _ => true) true fuel t cs = some (d, p) → (∀ n ∈ d.weights Tryz.prog t, n ≤ reachBytes) →
  ∃ a : α, B a ∧ M a + 1 ≤ Rows.uptoBulk d ∧ RVs W cs (cells a)
theorem Opens.map {t : TypeId} {α β : Type} {cells : α → List AV} {B : α → Prop} {M : α → Nat} (h : Opens t α cells B M) (f : α → β) {cells' : β → List AV} {B' : β → Prop} {M' : β → Nat} (hc : ∀ a, cells a = cells' (f a)) (hB : ∀ a, B a → B' (f a)) (hM : ∀ a, M' (f a) ≤ M a) : Opens t β cells' B' M' := by
 constructor
 intro H enc W fuel cs d p h1 h2
 obtain ⟨a, g1, g2, g3⟩ := h.op h1 h2
 exact ⟨f a, hB a g1, by have := hM a; omega, by rw [← hc]; exact g3⟩
theorem flat_get {sz : Nat} (hz : 0 < sz) : ∀ {es : List AV}, (∀ e ∈ es, (Eng.cellsOf e).length = sz) → ∀ j, (flat es)[j]? = (es[j / sz]?).bind fun e => (Eng.cellsOf e)[j % sz]?
 | [], _, j => by simp [flat]
 | x :: es, h, j => by
  have hx := h x (List.mem_cons_self ..)
  rw [flat, List.flatMap_cons]
  by_cases hj : j < sz
  ·rw [List.getElem?_append_left (by omega), Nat.div_eq_of_lt hj, Nat.mod_eq_of_lt hj]; rfl
  ·have ih := flat_get hz (es := es) (fun e he => h e (List.mem_cons_of_mem _ he)) (j - sz)
   rw [List.getElem?_append_right (by omega), hx]
   rw [show List.flatMap Eng.cellsOf es = flat es from rfl, ih]
   obtain ⟨k, rfl⟩ : ∃ k, j = k + sz := ⟨j - sz, by omega⟩
   rw [Nat.add_sub_cancel, Nat.add_div_right _ hz, Nat.add_mod_right]
   rfl
section
variable {H : Type} {enc : TypeId × Value → H} {W : World} {base : Nat} {v : Value} {d : DataW H} {p : List MemPlace} {t : TypeId} {α : Type} {cells : α → List AV} {B : α → Prop} {M : α → Nat}
theorem arg_int (ht : Tryz.prog.underlying t = some (.int .i64)) (hv : Value.okWide Tryz.prog W .any base t v) (h : DataW.Trod enc Tryz.prog W 0 (fun _ => true) true t v d p) :
    ∃ a : Int, (-9223372036854775808 ≤ a ∧ a ≤ 9223372036854775807) ∧ 0 + 1 ≤ Rows.uptoBulk d ∧ RV (fun _ => False) W noLoc v (.int .i64 a) := by
 obtain ⟨n, rfl, rfl, rfl, w⟩ := open_int ht hv h
 exact ⟨n, i64_in w, Nat.le_refl _, rv_int⟩
theorem arg_str (ht : Tryz.prog.underlying t = some .string) (hv : Value.okWide Tryz.prog W .any base t v) (h : DataW.Trod enc Tryz.prog W 0 (fun _ => true) true t v d p) (hw : ∀ n ∈ d.weights Tryz.prog t, n ≤ reachBytes) :
    ∃ a : List UInt8, a.length ≤ 140737488351232 ∧ a.length + 1 ≤ Rows.uptoBulk d ∧ RV (fun _ => False) W noLoc v (.str a) := by
 obtain ⟨s, rfl, rfl, rfl, w⟩ := Go.ChangeMaps.open_string ht hv h
 exact ⟨s.data.toList, hw _ (by simp [DataW.weights]), Nat.le_refl _, rv_str s⟩
theorem wt {P : Program} {ts : List TypeId} {ds : List (DataW H)} (h : (DataW.weightsEach P ts ds).all (· ≤ reachBytes) = true) {j : Nat} {t : TypeId} {d : DataW H} (ht : ts[j]? = some t) (hd : ds[j]? = some d) : ∀ n ∈ d.weights P t, n ≤ reachBytes := by
 intro n hn
 have := List.all_eq_true.1 h _ (DataW.weights_mem_each ht hd n hn)
 simpa using this
end
end Row
end Go.Proofs.YtjoefngnjoofeaaGreatDoor
