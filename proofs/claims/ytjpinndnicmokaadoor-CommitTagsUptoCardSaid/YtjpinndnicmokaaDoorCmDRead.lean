/- Commit: the document's reader: lines, numbers, who and when. -/
import Derived.Test.YtjpinndnicmokaaDoorCmDoc
import Derived.Test.YtjpinndnicmokaaDoorCmParse
set_option linter.all false
namespace Go.Proofs.YtjpinndnicmokaaDoor.Cm
open Eng Ob
set_option maxRecDepth 10000
theorem begins_ok (s p : Bs) (hs : s.length ≤ 9223372036854775807) (hp : p.length ≤ 9223372036854775807) : SpecR Tryd.prog 37 [.str s, .str p] (.bool (decide (p <+: s))) := by
  refine Cod.begins_spec (fun E R hN hR => ?_)
  by_cases hl : p.length ≤ s.length
  · have hiff : (s.take p.length = p) ↔ p <+: s := by
      constructor
      · intro h
        refine ⟨s.drop p.length, ?_⟩
        have := List.take_append_drop p.length s
        rw [h] at this
        exact this
      · rintro ⟨t, rfl⟩
        simp
    simp (disch := first | omega | (simp only [Lx]; omega)) only [go_sem, simprocAttr]
    (repeat (first | (with_reducible refine gskip_of ?_) | (with_reducible refine gcskip_of ?_) | (with_reducible refine gopen_of ?_)) <;> simp (disch := first | omega | (simp only [Lx]; omega)) only [go_sem, simprocAttr])
    refine hR.ro ⟨rfl, ?_⟩
    congr 1
    exact decide_eq_decide.2 hiff
  · have hn : ¬ p <+: s := fun h => hl h.length_le
    simp (disch := first | omega | (simp only [Lx]; omega)) only [go_sem, simprocAttr]
    (repeat (first | (with_reducible refine gskip_of ?_) | (with_reducible refine gcskip_of ?_) | (with_reducible refine gopen_of ?_)) <;> simp (disch := first | omega | (simp only [Lx]; omega)) only [go_sem, simprocAttr])
    refine hR.ro ⟨rfl, ?_⟩
    rw [decide_eq_false hn]
def lineA (o : Option (Bs × Bs)) : AV := match o with | some (a, b) => .tup [.str a, .str b, .bool true] | none => .tup [.str [], .str [], .bool false]
theorem lineL_index (w s : Bs) : (Lib.indexByte s 10 = -1 ∧ lineL w s = none) ∨ ∃ j : Nat, j < s.length ∧ Lib.indexByte s 10 = (j : Int) ∧ lineL w s = if (w ++ [32]) <+: s.take j then some ((s.take j).drop (w.length + 1), s.drop (j + 1)) else none := by
  unfold lineL
  rcases cutP_index 10 s with ⟨h1, h2⟩ | ⟨j, h1, h2, h3⟩
  · exact .inl ⟨h1, by rw [h2]; simp⟩
  · exact .inr ⟨j, h1, h2, by rw [h3]; simp⟩
theorem dl_ok (w s : Bs) (hs : s.length ≤ 1000000000000) (hw : w.length ≤ 100) : SpecR Tryd.prog 36 [.str s, .str w] (lineA (lineL w s)) := by
  refine Cod.dl_spec (fun E R hN hR => ?_)
  have hf : SpecR Tryd.prog 33 [.str s, .int .u8 10] (.int .i64 (Lib.indexByte s 10)) := find_ok s 10 (by omega)
  rcases lineL_index w s with ⟨h1, h2⟩ | ⟨j, h1, h2, h3⟩
  · rw [h1] at hf
    rw [h2] at hR
    simp (disch := first | omega | (simp only [Lx]; omega)) only [go_sem, simprocAttr]
    refine call_ro hf rfl rfl ?_
    simp (disch := first | omega | (simp only [Lx]; omega)) only [go_sem, simprocAttr]
    (repeat (first | (with_reducible refine gskip_of ?_) | (with_reducible refine gcskip_of ?_) | (with_reducible refine gopen_of ?_)) <;> simp (disch := first | omega | (simp only [Lx]; omega)) only [go_sem, simprocAttr])
    exact hR.ro ⟨rfl, rfl⟩
  · rw [h2] at hf
    have hb := begins_ok (s.take j) (w ++ [32]) (by rw [List.length_take]; omega) (by simp; omega)
    have e1 : ((w.length : Int) + 1).toNat = w.length + 1 := by omega
    have e2 : ((j : Int) + 1).toNat = j + 1 := by omega
    have e3 : ((j : Int)).toNat = j := by omega
    simp (disch := first | omega | (simp only [Lx]; omega)) only [go_sem, simprocAttr]
    refine call_ro hf rfl rfl ?_
    simp (disch := first | omega | (simp only [Lx]; omega)) only [go_sem, simprocAttr]
    (repeat (first | (with_reducible refine gskip_of ?_) | (with_reducible refine gcskip_of ?_) | (with_reducible refine gopen_of ?_)) <;> simp (disch := first | omega | (simp only [Lx]; omega)) only [go_sem, simprocAttr])
    refine gcyes_of (callT_ro (by simp (disch := first | omega | (simp only [Lx]; omega)) only [go_sem, simprocAttr]) hb (by simp (disch := first | omega | (simp only [Lx]; omega)) only [go_sem, simprocAttr]) rfl rfl ?_)
    by_cases hp : (w ++ [32]) <+: s.take j
    · rw [if_pos hp] at h3
      rw [h3] at hR
      have hlen : w.length + 1 ≤ j := by
        have := hp.length_le
        rw [List.length_take] at this
        simp at this
        omega
      have e4 : List.take (j - (w.length + 1)) (List.drop (w.length + 1) s) = (s.take j).drop (w.length + 1) := by rw [List.drop_take]
      simp (disch := first | omega | (simp only [Lx]; omega)) only [go_sem, simprocAttr, hp, e1, e2, e3, e4]
      exact hR.ro ⟨rfl, rfl⟩
    · rw [if_neg hp] at h3
      rw [h3] at hR
      simp (disch := first | omega | (simp only [Lx]; omega)) only [go_sem, simprocAttr, hp]
      exact hR.ro ⟨rfl, rfl⟩
end Go.Proofs.YtjpinndnicmokaaDoor.Cm
