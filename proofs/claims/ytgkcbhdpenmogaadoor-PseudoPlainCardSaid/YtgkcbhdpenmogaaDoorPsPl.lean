/- PseudoPlain: a pseudo-version lies behind its base, and its canonical form is one. -/
import Derived.Test.YtgkcbhdpenmogaaDoorPsNum
set_option linter.all false
namespace Go.Proofs.YtgkcbhdpenmogaaDoor.Ps
open Eng Sv
set_option maxRecDepth 10000
theorem preP_some {p f r : Bs} {t : Int} (h : preP p = some (f, t, r)) : 27 ≤ p.length ∧ f = p.take (p.length - 27) ∧ r.length = 12 := by
  unfold preP at h
  split at h
  · rename_i hc
    obtain ⟨h1, h2, h3⟩ := hc
    obtain ⟨t', _, ht⟩ := Option.map_eq_some_iff.1 h
    simp only [Prod.mk.injEq] at ht
    refine ⟨h1, ht.1.symm, ?_⟩
    rw [← ht.2.2]; exact rev_len h3
  · cases h
theorem pseudo_no {s : Bs} (h : pseudoE s ≠ 0) : pseudoP s = pt0 := by
  unfold pseudoE at h
  unfold pseudoP
  split
  · rfl
  · rename_i v hv
    rw [hv] at h
    simp only at h
    by_cases hs : 0 < v.sh
    · rw [if_pos hs]
    · rw [if_neg hs] at h ⊢
      cases hp : preV v with
      | none => rfl
      | some x => rw [hp] at h; exact absurd rfl h
theorem pseudo_some {s : Bs} (h : pseudoE s = 0) : ∃ v f t r b, parseP s = some v ∧ v.sh = 0 ∧ preP v.pr = some (f, t, r) ∧ baseP v f = some b ∧ pseudoP s = ⟨b, t, r⟩ := by
  unfold pseudoE at h
  unfold pseudoP
  split at h
  · exact absurd h (by decide)
  · rename_i v hv
    rw [hv]
    have hf := (parse_form hv).1
    split at h
    · exact absurd h (by decide)
    · rename_i hs
      rw [if_neg hs]
      cases hp : preV v with
      | none => rw [hp] at h; exact absurd h (by decide)
      | some x =>
        unfold preV at hp
        cases hq : preP v.pr with
        | none => rw [hq] at hp; cases hp
        | some y =>
          obtain ⟨f, t, r⟩ := y
          rw [hq] at hp
          simp only at hp
          cases hb : baseP v f with
          | none => rw [hb] at hp; cases hp
          | some b =>
            rw [hb] at hp
            obtain rfl := Option.some.inj hp
            exact ⟨v, f, t, r, b, rfl, by omega, hq, hb, rfl⟩
theorem canon_is {s : Bs} (h : pseudoE s = 0) : pseudoE (canonP s) = 0 ∧ canonP s ≠ [] := by
  obtain ⟨v, f, t, r, b, hv, hs, hp, hb, _⟩ := pseudo_some h
  have hc : canonP s = canonV v := by unfold canonP; rw [hv]
  rw [hc]
  refine ⟨?_, canonV_ne v⟩
  have vok := (parseP_ok hv).1
  have hl := (parseP_len hv).1
  have e := (parse_form hv).2.2 hs
  have hcl : (canonV v).length ≤ 100 := by
    have := congrArg List.length e
    rw [List.length_append] at this
    omega
  have hpc := parse_canon vok hcl
  unfold pseudoE
  rw [hpc]
  simp only
  rw [if_neg (by decide)]
  have hV : (preV ⟨v.mj, v.mi, v.pa, v.pr, [], 0⟩).isSome = true := by
    unfold preV
    simp only
    rw [hp]
    simp only
    unfold baseP at hb ⊢
    simp only
    split at hb
    · rename_i hf
      rw [if_pos hf]
      split at hb
      · rename_i h3
        rw [if_pos ⟨h3.1, h3.2.1, trivial⟩]; rfl
      · cases hb
    · rename_i hf
      rw [if_neg hf]
      split at hb
      · rename_i hf2
        rw [if_pos hf2]
        split at hb
        · cases hb
        · rename_i h4
          rw [if_neg h4]; rfl
      · rename_i hf2
        rw [if_neg hf2]
        split at hb
        · rename_i h5
          rw [if_pos h5]; rfl
        · cases hb
  rw [hV, if_pos rfl]
theorem base_ok {s : Bs} (h : pseudoE s = 0) : (pseudoP s).base = [] ∨ ∃ w, parseP (pseudoP s).base = some w ∧ cmpP (pseudoP s).base s = -1 := by
  obtain ⟨v, f, t, r, b, hv, hs, hp, hb, hP⟩ := pseudo_some h
  rw [hP]
  simp only
  obtain ⟨vok, _⟩ := parseP_ok hv
  have hl := (parseP_len hv).1
  have e := (parse_form hv).2.2 hs
  have hbu := (parse_form hv).2.1
  obtain ⟨p1, p2, p3⟩ := preP_some hp
  have hpr : v.pr ≠ [] := fun e => by rw [e] at p1; exact absurd p1 (by decide)
  have hwp := vok.pr.resolve_left hpr
  have hsl : s.length = v.mj.length + v.mi.length + v.pa.length + (v.pr.length + 1) + 3 + (bldP v).length := by
    have e1 := congrArg List.length e
    have e2 := (canonV_len v).2
    have e3 : (prT v.pr).length = v.pr.length + 1 := by unfold prT; rw [if_neg hpr]; rfl
    rw [List.length_append] at e1
    omega
  unfold baseP at hb
  split at hb
  · split at hb
    · obtain rfl := Option.some.inj hb; exact .inl rfl
    · cases hb
  · split at hb
    · split at hb
      · cases hb
      · rename_i h4
        obtain rfl := Option.some.inj hb
        refine .inr ?_
        obtain ⟨n1, n2⟩ := lessN_num vok.pa h4
        have n3 := (lessN_ne vok.pa h4).2
        have hw : VOK ⟨v.mj, v.mi, lessN v.pa, [], v.bu, 0⟩ := ⟨vok.mj, vok.mi, n1, .inl rfl, by simp⟩
        have eb : headP v ++ lessN v.pa ++ bldP v = canonV ⟨v.mj, v.mi, lessN v.pa, [], v.bu, 0⟩ ++ bldP ⟨v.mj, v.mi, lessN v.pa, [], v.bu, 0⟩ := by
          unfold canonV headP bldP
          rw [if_pos rfl]
        have hbl : (headP v ++ lessN v.pa ++ bldP v).length ≤ 100 := by
          unfold headP
          simp only [List.length_append, List.length_cons, List.length_nil]
          omega
        have hpw : parseP (headP v ++ lessN v.pa ++ bldP v) = some ⟨v.mj, v.mi, lessN v.pa, [], v.bu, 0⟩ := by
          rw [eb] at hbl ⊢
          exact parse_parts hw hbu hbl
        refine ⟨_, hpw, ?_⟩
        unfold cmpP
        rw [hpw, hv]
        show cmpV _ _ = _
        unfold cmpV
        simp only [numCmp_refl]
        rw [n2, if_neg (by decide), if_neg (by decide), if_pos (by decide)]
    · split at hb
      · rename_i h5
        obtain ⟨h5a, h5b, h5c⟩ := h5
        obtain rfl := Option.some.inj hb
        refine .inr ?_
        have hfl : f.length = v.pr.length - 27 := by rw [p2]; simp
        have hg0 : f.take (f.length - 3) ≠ [] := fun e => by
          have := congrArg List.length e
          rw [List.length_take, List.length_nil] at this
          omega
        have hsplit : v.pr = f.take (f.length - 3) ++ 46 :: ([48, 46] ++ v.pr.drop (v.pr.length - 27)) := by
          have e1 : f = f.take (f.length - 3) ++ [46, 48, 46] := by
            have := (List.take_append_drop (f.length - 3) f).symm
            rw [h5b] at this
            exact this
          have e2 := (List.take_append_drop (v.pr.length - 27) v.pr).symm
          rw [← p2] at e2
          conv => lhs; rw [e2, e1]
          simp
        generalize hg : f.take (f.length - 3) = g at *
        have hgw : wordsP g true = true := by
          rw [hsplit, words_app, Bool.and_eq_true] at hwp
          exact hwp.1
        have hg43 : 43 ∉ g := fun hm => vok.np (by rw [hsplit]; exact List.mem_append_left _ hm)
        have hgl : g.length ≤ v.pr.length := by rw [← hg, List.length_take]; omega
        have hw : VOK ⟨v.mj, v.mi, v.pa, g, v.bu, 0⟩ := ⟨vok.mj, vok.mi, vok.pa, .inr hgw, hg43⟩
        have eb : headP v ++ v.pa ++ [45] ++ g ++ bldP v = canonV ⟨v.mj, v.mi, v.pa, g, v.bu, 0⟩ ++ bldP ⟨v.mj, v.mi, v.pa, g, v.bu, 0⟩ := by
          unfold canonV headP bldP
          rw [if_neg hg0]
          simp
        have hbl : (headP v ++ v.pa ++ [45] ++ g ++ bldP v).length ≤ 100 := by
          unfold headP
          simp only [List.length_append, List.length_cons, List.length_nil]
          omega
        have hpw : parseP (headP v ++ v.pa ++ [45] ++ g ++ bldP v) = some ⟨v.mj, v.mi, v.pa, g, v.bu, 0⟩ := by
          rw [eb] at hbl ⊢
          exact parse_parts hw hbu hbl
        refine ⟨_, hpw, ?_⟩
        unfold cmpP
        rw [hpw, hv]
        show cmpV _ _ = _
        unfold cmpV
        simp only [numCmp_refl]
        rw [if_neg (by decide), if_neg (by decide), if_neg (by decide)]
        have hx := hwp
        rw [hsplit] at hx ⊢
        exact byWords_pre hg0 hx
      · cases hb
theorem lplain_ok (s : Bs) (hs : s.length ≤ 140737488351232) : SpecR Tryd.prog 5 [.str s] (.bool true) := by
  refine Cod.lplain_spec (fun E R hN hR => ?_)
  have h1 := pparse_ok s hs
  have h3 := pis_ok s hs
  have h4 := lawake_ok
  unfold ptA at h1
  simp (disch := first | omega | (simp only [Lx]; omega)) only [go_sem, simprocAttr]
  refine call_ro h1 rfl rfl ?_
  by_cases he : pseudoE s = 0
  · obtain ⟨v, f, t, r, b, hv, hsh, hp, hb, hP⟩ := pseudo_some he
    obtain ⟨p1, p2, p3⟩ := preP_some hp
    have hpr : v.pr ≠ [] := fun e => by rw [e] at p1; exact absurd p1 (by decide)
    have hbase := base_ok he
    obtain ⟨hc1, hc2⟩ := canon_is he
    have h5 := parse_ok s (by omega)
    have h6 := canonical_ok s (by omega)
    have hcl := canonP_len s
    have h7 := pis_ok (canonP s) (by omega)
    rw [hc1] at h7
    rw [hP] at hbase
    simp only at hbase
    rw [hP, he]
    rw [hv] at h5
    simp only [parseA, verA, Option.getD_some, Option.isSome_some, hsh] at h5
    obtain ⟨hml, a1, a2, a3, a4, a5⟩ := parseP_len hv
    simp (disch := first | omega | (simp only [Lx]; omega)) only [go_sem, simprocAttr]
    refine call_ro h5 rfl rfl ?_
    simp (disch := first | omega | (simp only [Lx]; omega)) only [go_sem, simprocAttr, hpr, p3]
    (repeat (first | (with_reducible refine gskip_of ?_) | (with_reducible refine gcskip_of ?_) | (with_reducible refine gopen_of ?_)) <;> simp (disch := first | omega | (simp only [Lx]; omega)) only [go_sem, simprocAttr, hpr, p3])
    have hd0 : decide ((0 : Int) = 0) = true := rfl
    rw [hd0] at h7
    rcases hbase with rfl | ⟨w, hw, hcmp⟩
    · have h8 := parse_ok [] (by decide)
      rw [show parseP [] = none from rfl] at h8
      simp only [parseA, verA, noV, Option.getD_none, Option.isSome_none] at h8
      refine call_ro h8 rfl rfl ?_
      simp (disch := first | omega | (simp only [Lx]; omega)) only [go_sem, simprocAttr]
      refine call_ro h4 rfl rfl ?_
      generalize canonP s = C at *
      simp (disch := first | omega | (simp only [Lx]; omega)) only [go_sem, simprocAttr]
      (repeat (first | (with_reducible refine gskip_of ?_) | (with_reducible refine gcskip_of ?_) | (with_reducible refine gopen_of ?_)) <;> simp (disch := first | omega | (simp only [Lx]; omega)) only [go_sem, simprocAttr])
      refine gcyes_of (callT_ro (by simp (disch := first | omega | (simp only [Lx]; omega)) only [go_sem, simprocAttr]) h6 (by simp (disch := first | omega | (simp only [Lx]; omega)) only [go_sem, simprocAttr]) rfl rfl ?_)
      simp (disch := first | omega | (simp only [Lx]; omega)) only [go_sem, simprocAttr]
      refine gcyes_of (callT_ro (by simp (disch := first | omega | (simp only [Lx]; omega)) only [go_sem, simprocAttr, List.append_nil]) h7 (by simp (disch := first | omega | (simp only [Lx]; omega)) only [go_sem, simprocAttr]) rfl rfl ?_)
      simp (disch := first | omega | (simp only [Lx]; omega)) only [go_sem, simprocAttr]
      refine gcyes_of (callT_ro (by simp (disch := first | omega | (simp only [Lx]; omega)) only [go_sem, simprocAttr]) h6 (by simp (disch := first | omega | (simp only [Lx]; omega)) only [go_sem, simprocAttr]) rfl rfl ?_)
      simp (disch := first | omega | (simp only [Lx]; omega)) only [go_sem, simprocAttr, hc2]
      exact hR.ro ⟨rfl, rfl⟩
    · obtain ⟨wl, w1, w2, w3, w4, w5⟩ := parseP_len hw
      have hb0 : b ≠ [] := by rintro rfl; cases hw
      have h8 := parse_ok b (by omega)
      rw [hw] at h8
      simp only [parseA, verA, Option.getD_some, Option.isSome_some] at h8
      have h9 := compare_ok b s (by omega) (by omega)
      rw [hcmp] at h9
      refine call_ro h8 rfl rfl ?_
      simp (disch := first | omega | (simp only [Lx]; omega)) only [go_sem, simprocAttr]
      refine call_ro h4 rfl rfl ?_
      generalize canonP s = C at *
      simp (disch := first | omega | (simp only [Lx]; omega)) only [go_sem, simprocAttr, hb0]
      (repeat (first | (with_reducible refine gskip_of ?_) | (with_reducible refine gcskip_of ?_) | (with_reducible refine gopen_of ?_)) <;> simp (disch := first | omega | (simp only [Lx]; omega)) only [go_sem, simprocAttr, hb0])
      refine gcyes_of (callT_ro (by simp (disch := first | omega | (simp only [Lx]; omega)) only [go_sem, simprocAttr]) h9 (by simp (disch := first | omega | (simp only [Lx]; omega)) only [go_sem, simprocAttr]) rfl rfl ?_)
      simp (disch := first | omega | (simp only [Lx]; omega)) only [go_sem, simprocAttr]
      refine gcyes_of (callT_ro (by simp (disch := first | omega | (simp only [Lx]; omega)) only [go_sem, simprocAttr]) h6 (by simp (disch := first | omega | (simp only [Lx]; omega)) only [go_sem, simprocAttr]) rfl rfl ?_)
      simp (disch := first | omega | (simp only [Lx]; omega)) only [go_sem, simprocAttr]
      refine gcyes_of (callT_ro (by simp (disch := first | omega | (simp only [Lx]; omega)) only [go_sem, simprocAttr, List.append_nil]) h7 (by simp (disch := first | omega | (simp only [Lx]; omega)) only [go_sem, simprocAttr]) rfl rfl ?_)
      simp (disch := first | omega | (simp only [Lx]; omega)) only [go_sem, simprocAttr]
      refine gcyes_of (callT_ro (by simp (disch := first | omega | (simp only [Lx]; omega)) only [go_sem, simprocAttr]) h6 (by simp (disch := first | omega | (simp only [Lx]; omega)) only [go_sem, simprocAttr]) rfl rfl ?_)
      simp (disch := first | omega | (simp only [Lx]; omega)) only [go_sem, simprocAttr, hc2]
      exact hR.ro ⟨rfl, rfl⟩
  · have hP := pseudo_no he
    have hd : decide (pseudoE s = 0) = false := decide_eq_false he
    rw [hd] at h3
    rw [hP]
    generalize pseudoE s = e at *
    simp (disch := first | omega | (simp only [Lx]; omega)) only [go_sem, simprocAttr, he]
    refine call_ro h4 rfl rfl ?_
    simp (disch := first | omega | (simp only [Lx]; omega)) only [go_sem, simprocAttr]
    (repeat (first | (with_reducible refine gskip_of ?_) | (with_reducible refine gcskip_of ?_) | (with_reducible refine gopen_of ?_)) <;> simp (disch := first | omega | (simp only [Lx]; omega)) only [go_sem, simprocAttr])
    refine gcyes_of (callT_ro (by simp (disch := first | omega | (simp only [Lx]; omega)) only [go_sem, simprocAttr]) h3 (by simp (disch := first | omega | (simp only [Lx]; omega)) only [go_sem, simprocAttr]) rfl rfl ?_)
    simp (disch := first | omega | (simp only [Lx]; omega)) only [go_sem, simprocAttr]
    exact hR.ro ⟨rfl, rfl⟩
end Go.Proofs.YtgkcbhdpenmogaaDoor.Ps
