/- The proof, part 20 of 23. -/
import Derived.Test.YtjoefngnjoofeaaGreatDoorPackReadsJ
import Derived.Test.YtjoefngnjoofeaaGreatDoorPackReadsQ
import Derived.Test.YtjoefngnjoofeaaGreatDoorPackReadsS
set_option linter.all false
namespace Go.Proofs.YtjoefngnjoofeaaGreatDoor.Pk
open Eng
set_option maxRecDepth 10000
theorem times_lt {t : Bs} {l : List Nat} {S : SS} {s : Nat} (hl : ∀ n ∈ l, n ≤ 15) (hs : s < 19) : (timesS t l s S).1 ≤ 200 ∧ (timesS t l s S).2.1 ≤ 15 := by
 have h2 := numS_lt (t := t) (n := 2) (S := S)
 have h3 := numS_lt (t := t) (n := 3) (S := S)
 have h7 := numS_lt (t := t) (n := 7) (S := S)
 unfold timesS
 split
 ·split
  ·exact ⟨by simp, by simp⟩
  ·rename_i hle
   refine ⟨by simp only; omega, ?_⟩
   have : l.length - 1 < l.length := by cases l with | nil => exact absurd rfl hle | cons => simp
   simp only [List.getD_eq_getElem?_getD, List.getElem?_eq_getElem this, Option.getD_some]
   exact hl _ (List.getElem_mem this)
 ·split
  ·exact ⟨by simp only; omega, by simp⟩
  ·split
   ·exact ⟨by simp only; omega, by simp⟩
   ·exact ⟨by simp, by simp only; omega⟩
theorem times_pos {t : Bs} {l : List Nat} {S : SS} {s : Nat} (h : (timesS t l s S).2.2.err = 0) (h0 : S.err = 0) : 1 ≤ (timesS t l s S).1 := by
 unfold timesS at h ⊢
 split
 ·rename_i hs
  rw [if_pos hs] at h
  split
  ·rename_i hle
   rw [if_pos hle] at h
   exact absurd h (fail_err (by decide))
  ·simp only; omega
 ·split
  ·simp only; omega
  ·split
   ·simp only; omega
   ·simp
theorem over_err {N : Nat} {l : List Nat} {b : Nat × Nat × SS} (h : (overS N l b).err = 0) : b.2.2.err = 0 ∧ overS N l b = b.2.2 ∧ l.length + b.1 ≤ N := by
 unfold overS at h ⊢
 by_cases hlt : N < l.length + b.1
 ·rw [if_pos hlt] at h
  exact absurd h (fail_err (by decide))
 ·rw [if_neg hlt] at h ⊢
  exact ⟨h, rfl, by omega⟩
set_option maxHeartbeats 4000000 in
theorem dyn_b (t : Bs) (most : Nat) (F : (List Nat × List Nat) × SS) (S0 : SS) (fl : List Nat) (nl nd : Nat) {E : Env} {R : HP → AV → List AV → Prop} (hN : E.N ≤ 1000000) (hR : PostTo (dynPost t most F) R) (h0 : OkS t most S0) (he0 : S0.err = 0)
    (hfl : ∀ n ∈ fl, n ≤ 15) (hfn : fl.length = 19) (h1 : 257 ≤ nl) (h2 : nl ≤ 286) (h3 : 1 ≤ nd) (h4 : nd ≤ 30)
    (hbad : (lensS t fl (nl + nd) (nl + nd) [] S0).2.err ≠ 0 → F = (([], []), (lensS t fl (nl + nd) (nl + nd) [] S0).2))
    (hgood : (lensS t fl (nl + nd) (nl + nd) [] S0).2.err = 0 → F = if (lensS t fl (nl + nd) (nl + nd) [] S0).1.getD 256 0 = 0 ∨ chkL ((lensS t fl (nl + nd) (nl + nd) [] S0).1.take nl) = false ∨ chkL ((lensS t fl (nl + nd) (nl + nd) [] S0).1.drop nl) = false
     then (([], []), { (lensS t fl (nl + nd) (nl + nd) [] S0).2 with err := 3 }) else (((lensS t fl (nl + nd) (nl + nd) [] S0).1.take nl, (lensS t fl (nl + nd) (nl + nd) [] S0).1.drop nl), (lensS t fl (nl + nd) (nl + nd) [] S0).2)) :
    vcW Tryz.prog E Cod.r5dyn_11 (Q5 R) ⟨[(0, .vptr 79038 0), (4, .int .i64 nl), (5, .int .i64 nd), (10, .ro 1 (codesA (codesL fl))), (11, .sl 75094 0 0), (2000000, .vptr 79038 0)], (75094, .arr 1 []) :: stW5 t most S0⟩ := by
 generalize hG : lensS t fl (nl + nd) (nl + nd) [] S0 = G at hbad hgood
 have hN0 : nl + nd < 400 := by omega
 have hN1 : 1 ≤ nl + nd := by omega
 generalize hNN : nl + nd = N at *
 have hcc := fun (h1' : ∀ n ∈ G.1, n ≤ 15) (h2' : G.2.err = 0 → G.1.length = N) => dyn_c t most F G.2 G.1 nl nd (E := E) (R := R) hN hR h1' hbad (fun h => ⟨(h2' h).trans hNN.symm, h1, h2, h4, hgood h⟩)
 refine vcW_cut (y := Cod.r5dyn_12) hN (fun _ : Unit => ⟨[(0, .vptr 79038 0), (4, .int .i64 nl), (11, .sl 75094 0 G.1.length), (2000000, .vptr 79038 0)], stW5 t most G.2 ++ [(75094, .arr 1 (nats G.1))]⟩) (fun _ => (∀ n ∈ G.1, n ≤ 15) ∧ (G.2.err = 0 → G.1.length = N)) (fun RX hRX => ?_)
  (fun _ hx => hcc hx.1 hx.2)
 have hnil0 : ∀ S', G = ([], S') → S'.err ≠ 0 → ∀ h, leH h (stW5 t most S') → R h (.tup [.nilsl, .nilsl]) [.vptr 79038 0] := by
  rintro S' rfl he' h hh
  exact dyn_none hR (hbad he') he' hh
 clear hcc hbad hgood hR
 simp (disch := omega) only [go_sem, simprocAttr]
 refine vcW_loop hN (fun q : List Nat × SS => ⟨[(0, .vptr 79038 0), (4, .int .i64 nl), (5, .int .i64 nd), (10, .ro 1 (codesA (codesL fl))), (11, .sl 75094 0 q.1.length), (2000000, .vptr 79038 0)], stW5 t most q.2 ++ [(75094, .arr 1 (nats q.1))]⟩)
  (fun q => OkS t most q.2 ∧ (∀ n ∈ q.1, n ≤ 15) ∧ q.1.length ≤ N ∧ (q.2.err ≠ 0 → G = q) ∧ (q.2.err = 0 → ∃ k, N - q.1.length ≤ k ∧ lensS t fl N k q.1 q.2 = G)) (fun q => if q.2.err = 0 then N + 1 - q.1.length else 0) ([], S0)
  (.le (by simp (disch := omega) only [go_sem, simprocAttr, stW5, nats_nil])) ⟨h0, by simp, by simp, fun h => absurd he0 h, fun _ => ⟨N, by simp, hG⟩⟩ ?_
 rintro ⟨l, S⟩ R1 ⟨hok, hl, hll, hb, hg⟩ hR1
 simp only at hok hl hll hb hg
 have hnl := nats_len l
 have esum : (nl : Int) + (nd : Int) = (N : Int) := by omega
 by_cases he : S.err = 0
 ·by_cases hlt : l.length < N
  ·obtain ⟨k, hk, hk2⟩ := hg he
   obtain ⟨k, rfl⟩ : ∃ k', k = k' + 1 := ⟨k - 1, by omega⟩
   rw [lens_succ, if_neg (by omega)] at hk2
   have hsu := sym_up (t := t) (l := fl) he
   simp (disch := omega) only [go_sem, simprocAttr, stW5, he, esum]
   (repeat (first | refine gskip_of ?_ | refine gcskip_of ?_ | refine gopen_of ?_) <;> simp (disch := omega) only [go_sem, simprocAttr, he, esum])
   refine call_win (stW5 t most S) (r5sym_ok t most S hok fl hfl (by omega)) (by simp (disch := omega) only [go_sem, simprocAttr, stW5, he]) nofun ?_
   rintro h' v ar ⟨rfl, rfl, rfl⟩
   have hok2 : OkS t most (symS t fl S).2 := hok.mv mv_sym
   have hs0 : (symS t fl S).2.err ≠ 0 → (symS t fl S).1 = 0 := by
    intro h
    unfold symS at h ⊢
    split at h
    ·rename_i hh; rw [if_pos hh]
    ·rename_i hh
     rw [if_neg hh]
     split at h
     ·rename_i hh; rw [if_pos hh]
     ·exact absurd he h
   generalize symS t fl S = a at *
   have hs19 : a.1 < 19 := by
    by_cases h : a.2.err = 0
    ·have := (hsu h).2; omega
    ·rw [hs0 h]; omega
   refine ⟨by simp (disch := omega) only [go_sem, simprocAttr, stW5], rfl, ?_⟩
   simp (disch := omega) only [go_sem, simprocAttr, stW5]
   have hmt : Mv t most a.2 (timesS t l a.1 a.2).2.2 := mv_times
   have hok3 := hok2.mv hmt
   have hmo : Mv t most (timesS t l a.1 a.2).2.2 (overS N l (timesS t l a.1 a.2)) := mv_over
   have hok4 := hok3.mv hmo
   refine vcW_cut hN (fun _ : Unit => ⟨[(0, .vptr 79038 0), (4, .int .i64 nl), (5, .int .i64 nd), (10, .ro 1 (codesA (codesL fl))), (11, .sl 75094 0 l.length), (13, .int .i64 ((timesS t l a.1 a.2).1 : Nat)), (14, .int .i64 ((timesS t l a.1 a.2).2.1 : Nat)), (2000000, .vptr 79038 0)], stW5 t most (timesS t l a.1 a.2).2.2 ++ [(75094, .arr 1 (nats l))]⟩)
    (fun _ => True) (fun R2 hR2 => ?_) (fun _ _ => ?_)
   ·have hnilG : a.1 = 16 → l = [] → G = ([], failS 3 a.2) := by
     intro h16 hle
     subst hle
     have ht : timesS t [] a.1 a.2 = (0, 0, failS 3 a.2) := by unfold timesS; rw [if_pos h16, if_pos rfl]
     have ho : overS N [] (0, 0, failS 3 a.2) = failS 3 a.2 := if_neg (by simp)
     rw [ht, ho, if_pos (fail_err (by decide))] at hk2
     exact hk2.symm
    have hsw := dyn_sw t most l fl nl nd a.1 a.2 (E := E) (R1 := R1) (R2 := R2) (RX := RX) (R := R) hN hok2 hs19 hl (by omega) (fun h16 hle => hnil0 _ (hnilG h16 hle) (fail_err (by decide))) (fun st' hw => hR2 () _ trivial hw)
    simp only [stW5] at hsw
    exact hsw
   ·have hb12 := times_lt (t := t) (l := l) (S := a.2) (s := a.1) hl hs19
    refine dyn_cp t most N l fl nl nd (timesS t l a.1 a.2) hN hNN (by omega) hll hb12.1 hb12.2 (fun st' hw => ?_)
    generalize hbb : timesS t l a.1 a.2 = b at *
    generalize hcc : overS N l b = c at *
    by_cases hce : c.err = 0
    ·rw [if_pos hce] at hw
     rw [if_neg (by simpa using hce)] at hk2
     obtain ⟨hbe, hcb, hov⟩ := over_err (N := N) (l := l) (b := b) (by rw [hcc]; exact hce)
     have hae : a.2.err = 0 := by
      by_cases h : a.2.err = 0
      ·exact h
      ·have h1 := hs0 h
       have ht : timesS t l a.1 a.2 = (1, a.1, a.2) := by unfold timesS; rw [if_neg (by omega), if_neg (by omega), if_neg (by omega)]
       rw [← hbb, ht] at hbe
       exact absurd hbe h
     have hb1 := times_pos (t := t) (l := l) (S := a.2) (s := a.1) (by rw [hbb]; exact hbe) hae
     rw [hbb] at hb1
     have hlr : (l ++ List.replicate b.1 b.2.1).length = l.length + b.1 := by simp
     refine hR1 (l ++ List.replicate b.1 b.2.1, c) _ ?_ ⟨hok4, ?_, ?_, ?_, ?_⟩ hw
     ·simp only [if_pos hce, if_pos he, hlr]
      omega
     ·intro n hn
      rcases List.mem_append.1 hn with hn | hn
      ·exact hl n hn
      ·rw [(List.mem_replicate.1 hn).2]
       exact hb12.2
     ·simp only [hlr]
      exact hov
     ·intro h
      exact absurd hce h
     ·intro _
      refine ⟨k, ?_, hk2⟩
      simp only [hlr]
      omega
    ·rw [if_neg hce] at hw
     rw [if_pos hce] at hk2
     refine hR1 (l, c) _ ?_ ⟨hok4, hl, hll, fun _ => hk2.symm, fun h => absurd h hce⟩ hw
     simp only [if_neg hce, if_pos he]
     omega
  ·obtain ⟨k, hk, hk2⟩ := hg he
   have hGe : G = (l, S) := by
    rw [← hk2]
    cases k with
    | zero => rfl
    | succ k => rw [lens_succ, if_pos (.inl (by omega))]
   subst hGe
   have hlt' : ¬ ((l.length : Int) < (N : Int)) := by omega
   simp (disch := omega) only [go_sem, simprocAttr, stW5, he, esum, hlt']
   (repeat (first | refine gskip_of ?_ | refine gcskip_of ?_ | refine gopen_of ?_) <;> simp (disch := omega) only [go_sem, simprocAttr, he, esum])
   exact hRX () _ ⟨hl, fun _ => by simp only; omega⟩ (.le (by simp (disch := omega) only [go_sem, simprocAttr, stW5, he]))
 ·have hGe := hb he
  subst hGe
  have hi : ¬ ((S.err : Int) = 0) := by omega
  by_cases hlt : l.length < N
  ·simp (disch := omega) only [go_sem, simprocAttr, stW5, hi, esum]
   (repeat (first | refine gskip_of ?_ | refine gcskip_of ?_ | refine gopen_of ?_) <;> simp (disch := omega) only [go_sem, simprocAttr, hi, esum])
   exact hRX () _ ⟨hl, fun h => absurd h he⟩ (.le (by simp (disch := omega) only [go_sem, simprocAttr, stW5]))
  ·have hlt' : ¬ ((l.length : Int) < (N : Int)) := by omega
   simp (disch := omega) only [go_sem, simprocAttr, stW5, hi, esum, hlt']
   (repeat (first | refine gskip_of ?_ | refine gcskip_of ?_ | refine gopen_of ?_) <;> simp (disch := omega) only [go_sem, simprocAttr, hi, esum])
   exact hRX () _ ⟨hl, fun h => absurd h he⟩ (.le (by simp (disch := omega) only [go_sem, simprocAttr, stW5]))
end Go.Proofs.YtjoefngnjoofeaaGreatDoor.Pk
namespace Go.Proofs.YtjoefngnjoofeaaGreatDoor.Pk
open Eng
set_option maxRecDepth 10000
def lensF (t : Bs) (nl nd : Nat) (b : List Nat × SS) : (List Nat × List Nat) × SS :=
 if b.2.err ≠ 0 then (([], []), b.2) else
 if b.1.getD 256 0 = 0 ∨ chkL (b.1.take nl) = false ∨ chkL (b.1.drop nl) = false then (([], []), { b.2 with err := 3 }) else ((b.1.take nl, b.1.drop nl), b.2)
def firstF (t : Bs) (nl nd : Nat) (a : List Nat × SS) : (List Nat × List Nat) × SS :=
 if a.2.err ≠ 0 then (([], []), a.2) else if chkL a.1 = false then (([], []), { a.2 with err := 3 }) else lensF t nl nd (lensS t a.1 (nl + nd) (nl + nd) [] a.2)
theorem dynS_eq (t : Bs) (S : SS) : dynS t S = if 8 * t.length < S.p + 14 then (([], []), { S with err := 6 }) else if 286 < numAt t S.p 5 + 257 ∨ 30 < numAt t (S.p + 5) 5 + 1 then (([], []), { S with p := S.p + 14, err := 3 }) else
    firstF t (numAt t S.p 5 + 257) (numAt t (S.p + 5) 5 + 1) (firstS t (numAt t (S.p + 10) 4 + 4) (numAt t (S.p + 10) 4 + 4) (List.replicate 19 0) { S with p := S.p + 14 }) := rfl
def ordW : Win := .arr 1 (nats placesL)
set_option maxHeartbeats 1000000 in
theorem dyn_d (t : Bs) (most : Nat) (S : SS) (fl : List Nat) (nl nd nc : Nat) (x9 : AV) {E : Env} {R : HP → AV → List AV → Prop} (hN : E.N ≤ 1000000) (hR : PostTo (dynPost t most (firstF t nl nd (fl, S))) R) (h0 : OkS t most S)
    (hfl : ∀ n ∈ fl, n ≤ 15) (hfn : fl.length = 19) (hb : S.err = 0 → 257 ≤ nl ∧ nl ≤ 286 ∧ 1 ≤ nd ∧ nd ≤ 30) :
    vcW Tryz.prog E Cod.r5dyn_7 (Q5 R) ⟨[(0, .vptr 79038 0), (4, .int .i64 nl), (5, .int .i64 nd), (6, .int .i64 nc), (7, .sl 75053 0 19), (8, .sl 75054 0 19), (9, x9), (64, .bool false), (2000000, .vptr 79038 0)], stW5 t most S ++ [(75053, .arr 1 (nats fl)), (75054, ordW)]⟩ := by
 have hnl := nats_len fl
 have hck := r4check_ok fl hfl (by omega)
 have hsub : sub3 (nats fl) 0 19 = nats fl := by rw [← hfn]; exact nats_take
 refine vcW_cut (y := Cod.r5dyn_8) hN (fun _ : Unit => ⟨[(0, .vptr 79038 0), (4, .int .i64 nl), (5, .int .i64 nd), (7, .ro 1 (nats fl)), (2000000, .vptr 79038 0)], stW5 t most (if S.err = 0 ∧ chkL fl = false then { S with err := 3 } else S)⟩) (fun _ => True) (fun R2 hR2 => ?_) (fun _ _ => ?_)
 ·clear hR
  by_cases he : S.err = 0
  ·cases hc : chkL fl with
   | false =>
    rw [hc] at hck
    rw [if_pos ⟨he, hc⟩] at hR2
    simp (disch := omega) only [go_sem, simprocAttr, stW5, he]
    (repeat (first | refine gskip_of ?_ | refine gcskip_of ?_ | refine gopen_of ?_) <;> simp (disch := omega) only [go_sem, simprocAttr])
    refine gcyes_of (callT_flat (by simp (disch := omega) only [go_sem, simprocAttr, hsub]) hck (by simp (disch := omega) only [go_sem, simprocAttr]) rfl ?_)
    simp (disch := omega) only [go_sem, simprocAttr]
    (repeat (first | refine gskip_of ?_ | refine gcskip_of ?_ | refine gopen_of ?_) <;> simp (disch := omega) only [go_sem, simprocAttr])
    refine call_win (stW5 t most S) (r5fail_ok t most S 3) (by simp (disch := omega) only [go_sem, simprocAttr, stW5, he]) nofun ?_
    rintro h' v ar ⟨rfl, rfl, rfl⟩
    refine ⟨by simp (disch := omega) only [go_sem, simprocAttr, stW5], rfl, ?_⟩
    rw [fail_of he]
    simp (disch := omega) only [go_sem, simprocAttr, stW5]
    exact hR2 () _ trivial (.frz 75053 (.le (by simp (disch := omega) only [go_sem, simprocAttr, stW5, hsub])))
   | true =>
    rw [hc] at hck
    rw [if_neg (by simp [hc])] at hR2
    simp (disch := omega) only [go_sem, simprocAttr, stW5, he]
    (repeat (first | refine gskip_of ?_ | refine gcskip_of ?_ | refine gopen_of ?_) <;> simp (disch := omega) only [go_sem, simprocAttr])
    refine gcyes_of (callT_flat (by simp (disch := omega) only [go_sem, simprocAttr, hsub]) hck (by simp (disch := omega) only [go_sem, simprocAttr]) rfl ?_)
    simp (disch := omega) only [go_sem, simprocAttr]
    (repeat (first | refine gskip_of ?_ | refine gcskip_of ?_ | refine gopen_of ?_) <;> simp (disch := omega) only [go_sem, simprocAttr])
    exact hR2 () _ trivial (.frz 75053 (.le (by simp (disch := omega) only [go_sem, simprocAttr, stW5, he, hsub])))
  ·have hi : ¬ ((S.err : Int) = 0) := by omega
   rw [if_neg (fun h => he h.1)] at hR2
   simp (disch := omega) only [go_sem, simprocAttr, stW5, hi]
   (repeat (first | refine gskip_of ?_ | refine gcskip_of ?_ | refine gopen_of ?_) <;> simp (disch := omega) only [go_sem, simprocAttr, hi])
   exact hR2 () _ trivial (.frz 75053 (.le (by simp (disch := omega) only [go_sem, simprocAttr, stW5, hsub])))
 ·by_cases he : S.err = 0
  ·by_cases hc : chkL fl = false
   ·rw [if_pos ⟨he, hc⟩]
    have hF : firstF t nl nd (fl, S) = (([], []), { S with err := 3 }) := by unfold firstF; rw [if_neg (by simpa using he), if_pos hc]
    simp (disch := omega) only [go_sem, simprocAttr, stW5]
    exact dyn_none hR hF (by simp) (by simp (disch := omega) only [go_sem, simprocAttr, stW5])
   ·rw [if_neg (fun h => hc h.2)]
    obtain ⟨h1, h2, h3, h4⟩ := hb he
    have hcod := r4codes_ok fl hfl (by omega)
    have hF : firstF t nl nd (fl, S) = lensF t nl nd (lensS t fl (nl + nd) (nl + nd) [] S) := by unfold firstF; rw [if_neg (by simpa using he), if_neg hc]
    rw [hF] at hR
    have hbb := dyn_b t most _ S fl nl nd (E := E) (R := R) hN hR h0 he hfl hfn h1 h2 h3 h4 (fun h => if_pos h) (fun h => if_neg (by simpa using h))
    clear hR
    simp (disch := omega) only [go_sem, simprocAttr, stW5, he]
    refine call_ro hcod rfl rfl ?_
    simp (disch := omega) only [go_sem, simprocAttr]
    simp only [stW5, he] at hbb
    exact hbb
  ·rw [if_neg (fun h => he h.1)]
   have hi : ¬ ((S.err : Int) = 0) := by omega
   have hF : firstF t nl nd (fl, S) = (([], []), S) := if_pos he
   simp (disch := omega) only [go_sem, simprocAttr, stW5, hi]
   exact dyn_none hR hF he (by simp (disch := omega) only [go_sem, simprocAttr, stW5])
theorem firstS_succ (t : Bs) (nc k : Nat) (l : List Nat) (S : SS) : firstS t nc (k + 1) l S = if S.err ≠ 0 then (l, S) else firstS t nc k (l.set (placesL.getD (nc - (k + 1)) 0) (numS t 3 S).1) (numS t 3 S).2 := rfl
theorem firstS_err (t : Bs) (nc k : Nat) (l : List Nat) (S : SS) (h : S.err ≠ 0) : firstS t nc k l S = (l, S) := by
 cases k with
 | zero => rfl
 | succ k => rw [firstS_succ, if_pos h]
theorem places_lt : ∀ j, j < 19 → placesL.getD j 0 < 19 := by decide
theorem nats_set {l : List Nat} {i x : Nat} : (nats l).set i (.int .i64 (x : Int)) = nats (l.set i x) := by simp [nats, List.map_set]
set_option maxHeartbeats 1000000 in
theorem dyn_e (t : Bs) (most : Nat) (S0 : SS) (nl nd nc : Nat) {E : Env} {R : HP → AV → List AV → Prop} (hN : E.N ≤ 1000000) (h0 : OkS t most S0) (hc : nc ≤ 19)
    (hR : PostTo (dynPost t most (firstF t nl nd (firstS t nc nc (List.replicate 19 0) S0))) R) (hb : S0.err = 0 → 257 ≤ nl ∧ nl ≤ 286 ∧ 1 ≤ nd ∧ nd ≤ 30) :
    vcW Tryz.prog E Cod.r5dyn_4 (Q5 R) ⟨[(0, .vptr 79038 0), (4, .int .i64 nl), (5, .int .i64 nd), (6, .int .i64 nc), (2000000, .vptr 79038 0)], stW5 t most S0⟩ := by
 generalize hG : firstS t nc nc (List.replicate 19 0) S0 = G at hR
 simp (disch := omega) only [go_sem, simprocAttr, stW5]
 refine vcW_loop hN (fun q : Nat × List Nat × SS => ⟨[(0, .vptr 79038 0), (4, .int .i64 nl), (5, .int .i64 nd), (6, .int .i64 nc), (7, .sl 75053 0 19), (8, .sl 75054 0 19), (9, .int .i64 q.1), (2000000, .vptr 79038 0)], stW5 t most q.2.2 ++ [(75053, .arr 1 (nats q.2.1)), (75054, ordW)]⟩)
  (fun q => OkS t most q.2.2 ∧ (∀ n ∈ q.2.1, n ≤ 15) ∧ q.2.1.length = 19 ∧ q.1 ≤ nc ∧ (q.2.2.err = 0 → S0.err = 0) ∧ firstS t nc (nc - q.1) q.2.1 q.2.2 = G) (fun q => nc - q.1) (0, List.replicate 19 0, S0)
  (.le (by simp (disch := omega) only [go_sem, simprocAttr, stW5, ordW]; exact ⟨rfl, rfl⟩)) ⟨h0, by simp, by simp, by simp, fun h => h, hG⟩ ?_
 rintro ⟨j, l, S⟩ R1 ⟨hok, hl, hll, hj, he0, hg⟩ hR1
 simp only at hok hl hll hj hg he0
 have hnl := nats_len l
 have fin : (l, S) = G → vcW Tryz.prog E Cod.r5dyn_7 (Q5 R) ⟨[(0, .vptr 79038 0), (4, .int .i64 nl), (5, .int .i64 nd), (6, .int .i64 nc), (7, .sl 75053 0 19), (8, .sl 75054 0 19), (9, .int .i64 j), (64, .bool false), (2000000, .vptr 79038 0)], stW5 t most S ++ [(75053, .arr 1 (nats l)), (75054, ordW)]⟩ := by
  intro h
  subst h
  exact dyn_d t most S l nl nd nc _ hN hR hok hl hll (fun h => hb (he0 h))
 clear hR
 by_cases he : S.err = 0
 ·by_cases hlt : j < nc
  ·clear fin
   obtain ⟨m, hm⟩ : ∃ m, nc - j = m + 1 := ⟨nc - j - 1, by omega⟩
   rw [hm, firstS_succ, if_neg (by simpa using he), show nc - (m + 1) = j by omega] at hg
   have hpl := places_lt j (by omega)
   have hx : nth (nats placesL) j = .int .i64 (placesL.getD j 0 : Nat) := nth_nats (by have : placesL.length = 19 := rfl; omega)
   have hpn : (nats placesL).length = 19 := rfl
   generalize placesL.getD j 0 = pj at *
   have hnlt := numS_lt (t := t) (n := 3) (S := S)
   have hnum := r5num_ok t most S hok 3 (by decide)
   have hok2 : OkS t most (numS t 3 S).2 := hok.mv mv_num
   have hxl : nth (nats l) pj = .int .i64 (l.getD pj 0 : Nat) := nth_nats (by omega)
   have hnx : ∀ x, x < 8 → ∀ n ∈ l.set pj x, n ≤ 15 := by
    intro x hx n hn
    rcases List.mem_or_eq_of_mem_set hn with hn | hn
    ·exact hl n hn
    ·omega
   simp (disch := omega) only [go_sem, simprocAttr, stW5, he, ordW, hpn]
   (repeat (first | refine gskip_of ?_ | refine gcskip_of ?_ | refine gopen_of ?_) <;> simp (disch := omega) only [go_sem, simprocAttr, he])
   refine ⟨?_, ?_⟩
   ·simp (disch := omega) only [go_sem, simprocAttr, hx, hpn]
    refine call_win (stW5 t most S) hnum (by simp (disch := omega) only [go_sem, simprocAttr, stW5, he]) nofun ?_
    rintro h' v ar ⟨rfl, rfl, rfl⟩
    generalize numS t 3 S = a at *
    refine ⟨by simp (disch := omega) only [go_sem, simprocAttr, stW5], rfl, ?_⟩
    simp (disch := omega) only [go_sem, simprocAttr, stW5, hnl, hll, hxl, nats_set]
    exact hR1 (j + 1, l.set pj a.1, a.2) _ (by simp only; omega) ⟨hok2, hnx _ hnlt, by simp [hll], hlt, fun _ => he0 he, by simp only; rw [show nc - (j + 1) = m by omega]; exact hg⟩ (.le (by simp (disch := omega) only [go_sem, simprocAttr, stW5, ordW]))
   ·refine call_win (stW5 t most S) hnum (by simp (disch := omega) only [go_sem, simprocAttr, stW5, he]) nofun ?_
    rintro h' v ar ⟨rfl, rfl, rfl⟩
    generalize numS t 3 S = a at *
    refine ⟨by simp (disch := omega) only [go_sem, simprocAttr, stW5], rfl, ?_⟩
    simp (disch := omega) only [go_sem, simprocAttr, stW5, hnl, hll, hx, hxl, hpn, nats_set]
    exact hR1 (j + 1, l.set pj a.1, a.2) _ (by simp only; omega) ⟨hok2, hnx _ hnlt, by simp [hll], hlt, fun _ => he0 he, by simp only; rw [show nc - (j + 1) = m by omega]; exact hg⟩ (.le (by simp (disch := omega) only [go_sem, simprocAttr, stW5, ordW]))
  ·obtain rfl : j = nc := by omega
   rw [Nat.sub_self] at hg
   have fin := fin hg
   simp only [stW5, he] at fin
   simp (disch := omega) only [go_sem, simprocAttr, stW5, he]
   (repeat (first | refine gskip_of ?_ | refine gcskip_of ?_ | refine gopen_of ?_) <;> simp (disch := omega) only [go_sem, simprocAttr, he])
   exact fin
 ·rw [firstS_err _ _ _ _ _ he] at hg
  have fin := fin hg
  simp only [stW5] at fin
  have hi : ¬ ((S.err : Int) = 0) := by omega
  by_cases hlt : j < nc
  ·simp (disch := omega) only [go_sem, simprocAttr, stW5, hi]
   (repeat (first | refine gskip_of ?_ | refine gcskip_of ?_ | refine gopen_of ?_) <;> simp (disch := omega) only [go_sem, simprocAttr, hi])
   exact fin
  ·simp (disch := omega) only [go_sem, simprocAttr, stW5, hi]
   (repeat (first | refine gskip_of ?_ | refine gcskip_of ?_ | refine gopen_of ?_) <;> simp (disch := omega) only [go_sem, simprocAttr, hi])
   exact fin
theorem num3 (t : Bs) (S : SS) (he : S.err = 0) (h : ¬ 8 * t.length < S.p + 14) : numS t 5 S = (numAt t S.p 5, { S with p := S.p + 5 }) ∧ numS t 5 { S with p := S.p + 5 } = (numAt t (S.p + 5) 5, { S with p := S.p + 10 }) ∧ numS t 4 { S with p := S.p + 10 } = (numAt t (S.p + 10) 4, { S with p := S.p + 14 }) :=
 ⟨num_ok he (by omega), num_ok he (by simp only; omega), num_ok he (by simp only; omega)⟩
set_option maxHeartbeats 1000000 in
theorem r5dyn_ok (t : Bs) (most : Nat) (S : SS) (h0 : OkS t most S) (he : S.err = 0) : Eng.Spec Tryz.prog 87 (stW5 t most S) [.vptr ST5 0] (dynPost t most (dynS t S)) := by
 refine Cod.r5dyn_spec (fun E R hN hR => ?_)
 have hbl := bits_len t
 obtain ⟨q1, q2, q3, q4⟩ := h0
 have h0 : OkS t most S := ⟨q1, q2, q3, q4⟩
 rw [dynS_eq] at hR
 generalize hS1 : (if 8 * t.length < S.p + 14 then { S with err := 6 } else S) = S1
 have hok1 : OkS t most S1 := by rw [← hS1]; split; exact h0.mv mv_err; exact h0
 simp (disch := omega) only [go_sem, simprocAttr, stW5]
 refine vcW_cut hN (fun _ : Unit => ⟨[(0, .vptr 79038 0), (2000000, .vptr 79038 0)], stW5 t most S1⟩) (fun _ => True) (fun R2 hR2 => ?_) (fun _ _ => ?_)
 ·subst hS1
  by_cases hlt : 8 * t.length < S.p + 14
  ·rw [if_pos hlt] at hR2
   have hi : ((8 * t.length : Nat) : Int) - (S.p : Int) < 14 := by omega
   simp (disch := omega) only [go_sem, simprocAttr, stW5, he, hbl, hi]
   (repeat (first | refine gskip_of ?_ | refine gcskip_of ?_ | refine gopen_of ?_) <;> simp (disch := omega) only [go_sem, simprocAttr, he, hbl, hi])
   refine call_win (stW5 t most S) (r5fail_ok t most S 6) (by simp (disch := omega) only [go_sem, simprocAttr, stW5, he]) nofun ?_
   rintro h' v ar ⟨rfl, rfl, rfl⟩
   refine ⟨by simp (disch := omega) only [go_sem, simprocAttr, stW5], rfl, ?_⟩
   rw [fail_of he]
   simp (disch := omega) only [go_sem, simprocAttr, stW5]
   exact hR2 () _ trivial (.le (by simp (disch := omega) only [go_sem, simprocAttr, stW5]))
  ·rw [if_neg hlt] at hR2
   have hi : ¬ ((8 * t.length : Nat) : Int) - (S.p : Int) < 14 := by omega
   simp (disch := omega) only [go_sem, simprocAttr, stW5, he, hbl, hi]
   (repeat (first | refine gskip_of ?_ | refine gcskip_of ?_ | refine gopen_of ?_) <;> simp (disch := omega) only [go_sem, simprocAttr, he, hbl, hi])
   exact hR2 () _ trivial (.le (by simp (disch := omega) only [go_sem, simprocAttr, stW5, he]))
 ·generalize hF : (if 8 * t.length < S.p + 14 then ((([] : List Nat), ([] : List Nat)), { S with err := 6 }) else if 286 < numAt t S.p 5 + 257 ∨ 30 < numAt t (S.p + 5) 5 + 1 then (([], []), { S with p := S.p + 14, err := 3 }) else
   firstF t (numAt t S.p 5 + 257) (numAt t (S.p + 5) 5 + 1) (firstS t (numAt t (S.p + 10) 4 + 4) (numAt t (S.p + 10) 4 + 4) (List.replicate 19 0) { S with p := S.p + 14 })) = F at hR
  have ha := r5num_ok t most S1 hok1 5 (by decide)
  have hoka : OkS t most (numS t 5 S1).2 := hok1.mv mv_num
  have hla := numS_lt (t := t) (n := 5) (S := S1)
  generalize hea : numS t 5 S1 = a at *
  have hb := r5num_ok t most a.2 hoka 5 (by decide)
  have hokb : OkS t most (numS t 5 a.2).2 := hoka.mv mv_num
  have hlb := numS_lt (t := t) (n := 5) (S := a.2)
  generalize heb : numS t 5 a.2 = b at *
  have hc := r5num_ok t most b.2 hokb 4 (by decide)
  have hokc : OkS t most (numS t 4 b.2).2 := hokb.mv mv_num
  have hlc := numS_lt (t := t) (n := 4) (S := b.2)
  generalize hec : numS t 4 b.2 = c at *
  simp (disch := omega) only [go_sem, simprocAttr, stW5]
  refine call_win (stW5 t most S1) ha (by simp (disch := omega) only [go_sem, simprocAttr, stW5]) nofun ?_
  rintro h' v ar ⟨rfl, rfl, rfl⟩
  refine ⟨by simp (disch := omega) only [go_sem, simprocAttr, stW5], rfl, ?_⟩
  simp (disch := omega) only [go_sem, simprocAttr, stW5]
  refine call_win (stW5 t most a.2) hb (by simp (disch := omega) only [go_sem, simprocAttr, stW5]) nofun ?_
  rintro h' v ar ⟨rfl, rfl, rfl⟩
  refine ⟨by simp (disch := omega) only [go_sem, simprocAttr, stW5], rfl, ?_⟩
  simp (disch := omega) only [go_sem, simprocAttr, stW5]
  refine call_win (stW5 t most b.2) hc (by simp (disch := omega) only [go_sem, simprocAttr, stW5]) nofun ?_
  rintro h' v ar ⟨rfl, rfl, rfl⟩
  refine ⟨by simp (disch := omega) only [go_sem, simprocAttr, stW5], rfl, ?_⟩
  simp (disch := omega) only [go_sem, simprocAttr, stW5]
  generalize hS2 : (if 286 < a.1 + 257 ∨ 30 < b.1 + 1 then failS 3 c.2 else c.2) = S2
  have hok2 : OkS t most S2 := by rw [← hS2]; split; exact hokc.mv mv_fail; exact hokc
  refine vcW_cut hN (fun _ : Unit => ⟨[(0, .vptr 79038 0), (4, .int .i64 ((a.1 + 257 : Nat) : Int)), (5, .int .i64 ((b.1 + 1 : Nat) : Int)), (6, .int .i64 ((c.1 + 4 : Nat) : Int)), (2000000, .vptr 79038 0)], stW5 t most S2⟩) (fun _ => True) (fun R2 hR2 => ?_) (fun _ _ => ?_)
  ·subst hS2
   by_cases hx1 : 286 < a.1 + 257
   ·have hx1' := hx1
    rw [if_pos (.inl hx1)] at hR2
    simp (disch := omega) only [go_sem, simprocAttr]
    (repeat (first | refine gskip_of ?_ | refine gcskip_of ?_ | refine gopen_of ?_) <;> simp (disch := omega) only [go_sem, simprocAttr])
    refine call_win (stW5 t most c.2) (r5fail_ok t most c.2 3) (by simp (disch := omega) only [go_sem, simprocAttr, stW5]) nofun ?_
    rintro h' v ar ⟨rfl, rfl, rfl⟩
    generalize failS 3 c.2 = S3 at *
    refine ⟨by simp (disch := omega) only [go_sem, simprocAttr, stW5], rfl, ?_⟩
    simp (disch := omega) only [go_sem, simprocAttr, stW5]
    exact hR2 () _ trivial (.le (by simp (disch := omega) only [go_sem, simprocAttr, stW5]))
   ·by_cases hx2 : 30 < b.1 + 1
    ·have hx2' := hx2
     rw [if_pos (.inr hx2)] at hR2
     simp (disch := omega) only [go_sem, simprocAttr]
     (repeat (first | refine gskip_of ?_ | refine gcskip_of ?_ | refine gopen_of ?_) <;> simp (disch := omega) only [go_sem, simprocAttr])
     refine call_win (stW5 t most c.2) (r5fail_ok t most c.2 3) (by simp (disch := omega) only [go_sem, simprocAttr, stW5]) nofun ?_
     rintro h' v ar ⟨rfl, rfl, rfl⟩
     generalize failS 3 c.2 = S3 at *
     refine ⟨by simp (disch := omega) only [go_sem, simprocAttr, stW5], rfl, ?_⟩
     simp (disch := omega) only [go_sem, simprocAttr, stW5]
     exact hR2 () _ trivial (.le (by simp (disch := omega) only [go_sem, simprocAttr, stW5]))
    ·rw [if_neg (by omega)] at hR2
     simp (disch := omega) only [go_sem, simprocAttr]
     (repeat (first | refine gskip_of ?_ | refine gcskip_of ?_ | refine gopen_of ?_) <;> simp (disch := omega) only [go_sem, simprocAttr])
     exact hR2 () _ trivial (.le (by simp (disch := omega) only [go_sem, simprocAttr, stW5]))
  ·have hfin : F = firstF t (a.1 + 257) (b.1 + 1) (firstS t (c.1 + 4) (c.1 + 4) (List.replicate 19 0) S2) := by
    rw [← hF]
    by_cases hlt : 8 * t.length < S.p + 14
    ·rw [if_pos hlt] at hS1 ⊢
     have h1 : S1.err ≠ 0 := by rw [← hS1]; simp
     rw [num_err h1] at hea
     subst hea
     rw [num_err h1] at heb
     subst heb
     rw [num_err h1] at hec
     subst hec
     rw [if_neg (by simp)] at hS2
     simp only at hS2
     subst hS2
     rw [firstS_err _ _ _ _ _ h1]
     unfold firstF
     rw [if_pos h1, hS1]
    ·rw [if_neg hlt] at hS1 ⊢
     subst hS1
     obtain ⟨w1, w2, w3⟩ := num3 t S he hlt
     rw [w1] at hea
     subst hea
     simp only at heb
     rw [w2] at heb
     subst heb
     simp only at hec
     rw [w3] at hec
     subst hec
     simp only at hS2 ⊢
     by_cases hx : 286 < numAt t S.p 5 + 257 ∨ 30 < numAt t (S.p + 5) 5 + 1
     ·rw [if_pos hx] at hS2 ⊢
      rw [fail_of (by exact he)] at hS2
      subst hS2
      rw [firstS_err _ _ _ _ _ (by simp)]
      unfold firstF
      rw [if_pos (by simp)]
     ·rw [if_neg hx] at hS2 ⊢
      rw [hS2]
   rw [hfin] at hR
   refine dyn_e t most S2 (a.1 + 257) (b.1 + 1) (c.1 + 4) hN hok2 (by omega) hR (fun h => ?_)
   rw [← hS2] at h
   split at h
   ·exact absurd h (fail_err (by decide))
   ·omega
end Go.Proofs.YtjoefngnjoofeaaGreatDoor.Pk
namespace Go.Proofs.YtjoefngnjoofeaaGreatDoor.Pk
open Eng
set_option maxRecDepth 10000
theorem lens_good {t : Bs} {fl : List Nat} {N : Nat} (hfn : fl.length = 19) : ∀ (k : Nat) (l : List Nat) (S : SS), (∀ n ∈ l, n ≤ 15) → l.length ≤ N → (∀ n ∈ (lensS t fl N k l S).1, n ≤ 15) ∧ (lensS t fl N k l S).1.length ≤ N
 | 0, l, S, h1, h2 => ⟨h1, h2⟩
 | k + 1, l, S, h1, h2 => by
  rw [lens_succ]
  split
  ·exact ⟨h1, h2⟩
  ·rename_i hn
   have he : S.err = 0 := by omega
   have hs : (symS t fl S).1 < 19 := by
    by_cases h : (symS t fl S).2.err = 0
    ·have := (sym_up he h).2; omega
    ·unfold symS at h ⊢
     split at h
     ·rename_i hh; rw [if_pos hh]; simp
     ·rename_i hh
      rw [if_neg hh]
      split at h
      ·rename_i hh; rw [if_pos hh]; simp
      ·exact absurd he h
   have hb := times_lt (t := t) (S := (symS t fl S).2) h1 hs
   split
   ·exact ⟨h1, h2⟩
   ·rename_i hc
    have ho := over_err (N := N) (l := l) (b := timesS t l (symS t fl S).1 (symS t fl S).2) (by omega)
    refine lens_good hfn k _ _ ?_ (by simp only [List.length_append, List.length_replicate]; exact ho.2.2)
    intro n hn
    rcases List.mem_append.1 hn with hn | hn
    ·exact h1 n hn
    ·rw [(List.mem_replicate.1 hn).2]
     exact hb.2
theorem first_len {t : Bs} {nc : Nat} : ∀ (k : Nat) (l : List Nat) (S : SS), (firstS t nc k l S).1.length = l.length
 | 0, l, S => rfl
 | k + 1, l, S => by
  rw [firstS_succ]
  split
  ·rfl
  ·rw [first_len k]; simp
theorem dyn_good {t : Bs} {S : SS} (h : (dynS t S).2.err = 0) : (∀ n ∈ (dynS t S).1.1, n ≤ 15) ∧ (dynS t S).1.1.length ≤ 320 ∧ (∀ n ∈ (dynS t S).1.2, n ≤ 15) ∧ (dynS t S).1.2.length ≤ 320 := by
 rw [dynS_eq] at h ⊢
 split
 ·simp
 ·rename_i h1
  rw [if_neg h1] at h
  split
  ·simp
  ·rename_i h2
   rw [if_neg h2] at h
   have hfl := first_len (t := t) (nc := numAt t (S.p + 10) 4 + 4) (numAt t (S.p + 10) 4 + 4) (List.replicate 19 0) { S with p := S.p + 14 }
   generalize firstS t (numAt t (S.p + 10) 4 + 4) (numAt t (S.p + 10) 4 + 4) (List.replicate 19 0) { S with p := S.p + 14 } = a at *
   generalize numAt t S.p 5 + 257 = nl at *
   generalize numAt t (S.p + 5) 5 + 1 = nd at *
   rw [List.length_replicate] at hfl
   unfold firstF
   split
   ·simp
   ·split
    ·simp
    ·have hg := lens_good (t := t) (fl := a.1) (N := nl + nd) hfl (nl + nd) [] a.2 (by simp) (by simp)
     unfold lensF
     generalize lensS t a.1 (nl + nd) (nl + nd) [] a.2 = b at *
     split
     ·simp
     ·split
      ·simp
      ·refine ⟨take15 hg.1 nl, ?_, drop15 hg.1 nl, ?_⟩
       ·simp only [List.length_take]; omega
       ·simp only [List.length_drop]; omega
theorem blockS_n {t : Bs} {S : SS} (he : S.err = 0) (h : ¬ 8 * t.length < S.p + 3) :
    numS t 1 S = (numAt t S.p 1, { S with p := S.p + 1 }) ∧ numS t 2 { S with p := S.p + 1 } = (numAt t (S.p + 1) 2, { S with p := S.p + 3 }) :=
 ⟨num_ok he (by omega), num_ok he (by simp only; omega)⟩
theorem up8 (n : Nat) : upB n / 8 = (n + 7) / 8 := by unfold upB; omega
def kindS (t : Bs) (most k : Nat) (S : SS) : SS :=
 if S.err ≠ 0 then S else if k = 0 then storedS t most S else if k = 1 then packS t most fixL fixD S
  else if k = 2 then (if (dynS t S).2.err ≠ 0 then (dynS t S).2 else packS t most (dynS t S).1.1 (dynS t S).1.2 (dynS t S).2) else { S with err := 3 }
set_option maxHeartbeats 2000000 in
theorem kind_ok (t : Bs) (most k : Nat) (S : SS) (fin : Nat) {E : Env} {Q : KQ} {R2 : KS} (hN : E.N ≤ 1000000) (hok : OkS t most S) (hk : k < 4)
    (hR2 : ∀ st', Wk st' ⟨[(9, .vptr 79038 0), (10, .int .i64 fin)], stW5 t most (kindS t most k S)⟩ → R2.ap st') :
    vcW Tryz.prog E Cod.r5inflate_14 (KQ.rnd R2 Q) ⟨[(9, .vptr 79038 0), (10, .int .i64 fin), (11, .int .i64 k)], stW5 t most S⟩ := by
 unfold kindS at hR2
 by_cases he : S.err = 0
 ·rw [if_neg (by simpa using he)] at hR2
  by_cases h0 : k = 0
  ·rw [if_pos h0] at hR2
   subst h0
   simp (disch := omega) only [go_sem, simprocAttr, stW5, he]
   (repeat (first | refine gskip_of ?_ | refine gcskip_of ?_ | refine gopen_of ?_) <;> simp (disch := omega) only [go_sem, simprocAttr])
   refine call_win (stW5 t most S) (r5stored_ok t most S hok) (by simp (disch := omega) only [go_sem, simprocAttr, stW5, he]) nofun ?_
   rintro h' v ar ⟨rfl, rfl, rfl⟩
   generalize storedS t most S = S3 at *
   refine ⟨by simp (disch := omega) only [go_sem, simprocAttr, stW5], rfl, ?_⟩
   simp (disch := omega) only [go_sem, simprocAttr, stW5]
   exact hR2 _ (.le (by simp (disch := omega) only [go_sem, simprocAttr, stW5]))
  ·rw [if_neg h0] at hR2
   have i0 : ¬ ((k : Int) = 0) := by omega
   by_cases h1 : k = 1
   ·rw [if_pos h1] at hR2
    subst h1
    have hp := r5packed_ok t most S hok fixL fixD fixL_ok.1 (by rw [fixL_ok.2.1]; decide) fixD_ok.1 (by rw [fixD_ok.2.1]; decide)
    have hfx := r5fixed_ok
    generalize fixL = l at *
    generalize fixD = d at *
    generalize hF : packS t most l d S = F at *
    simp (disch := omega) only [go_sem, simprocAttr, stW5, he]
    (repeat (first | refine gskip_of ?_ | refine gcskip_of ?_ | refine gopen_of ?_) <;> simp (disch := omega) only [go_sem, simprocAttr])
    refine call_ro hfx rfl rfl ?_
    simp (disch := omega) only [go_sem, simprocAttr]
    refine call_win (stW5 t most S) hp (by simp (disch := omega) only [go_sem, simprocAttr, stW5, he]) nofun ?_
    rintro h' v ar ⟨rfl, rfl, rfl⟩
    refine ⟨by simp (disch := omega) only [go_sem, simprocAttr, stW5], rfl, ?_⟩
    simp (disch := omega) only [go_sem, simprocAttr, stW5]
    exact hR2 _ (.le (by simp (disch := omega) only [go_sem, simprocAttr, stW5]))
   ·rw [if_neg h1] at hR2
    have i1 : ¬ ((k : Int) = 1) := by omega
    by_cases h2 : k = 2
    ·rw [if_pos h2] at hR2
     subst h2
     have hd := r5dyn_ok t most S hok he
     have hg := dyn_good (t := t) (S := S)
     have hokd : OkS t most (dynS t S).2 := hok.mv mv_dyn
     generalize dynS t S = D at *
     simp (disch := omega) only [go_sem, simprocAttr, stW5, he]
     (repeat (first | refine gskip_of ?_ | refine gcskip_of ?_ | refine gopen_of ?_) <;> simp (disch := omega) only [go_sem, simprocAttr])
     refine call_win (stW5 t most S) hd (by simp (disch := omega) only [go_sem, simprocAttr, stW5, he]) nofun ?_
     rintro h' v ar ⟨rfl, rfl, rfl⟩
     by_cases hde : D.2.err = 0
     ·rw [if_neg (by simpa using hde)] at hR2
      rw [if_pos hde]
      obtain ⟨g1, g2, g3, g4⟩ := hg hde
      have hp := r5packed_ok t most D.2 hokd D.1.1 D.1.2 g1 g2 g3 g4
      generalize packS t most D.1.1 D.1.2 D.2 = F at *
      refine ⟨by simp (disch := omega) only [go_sem, simprocAttr, stW5], by simp (disch := omega) only [go_sem, simprocAttr], ?_⟩
      simp (disch := omega) only [go_sem, simprocAttr, stW5, hde]
      refine call_win (stW5 t most D.2) hp (by simp (disch := omega) only [go_sem, simprocAttr, stW5, hde]) nofun ?_
      rintro h' v ar ⟨rfl, rfl, rfl⟩
      refine ⟨by simp (disch := omega) only [go_sem, simprocAttr, stW5], rfl, ?_⟩
      simp (disch := omega) only [go_sem, simprocAttr, stW5]
      exact hR2 _ (.le (by simp (disch := omega) only [go_sem, simprocAttr, stW5]))
     ·rw [if_pos hde] at hR2
      rw [if_neg hde]
      have hi : ¬ ((D.2.err : Int) = 0) := by omega
      refine ⟨by simp (disch := omega) only [go_sem, simprocAttr, stW5], by simp (disch := omega) only [go_sem, simprocAttr], ?_⟩
      simp (disch := omega) only [go_sem, simprocAttr, stW5, hi]
      (repeat (first | refine gskip_of ?_ | refine gcskip_of ?_ | refine gopen_of ?_) <;> simp (disch := omega) only [go_sem, simprocAttr, hi])
      exact hR2 _ (.le (by simp (disch := omega) only [go_sem, simprocAttr, stW5]))
    ·rw [if_neg h2] at hR2
     obtain rfl : k = 3 := by omega
     simp (disch := omega) only [go_sem, simprocAttr, stW5, he]
     (repeat (first | refine gskip_of ?_ | refine gcskip_of ?_ | refine gopen_of ?_) <;> simp (disch := omega) only [go_sem, simprocAttr])
     refine call_win (stW5 t most S) (r5fail_ok t most S 3) (by simp (disch := omega) only [go_sem, simprocAttr, stW5, he]) nofun ?_
     rintro h' v ar ⟨rfl, rfl, rfl⟩
     refine ⟨by simp (disch := omega) only [go_sem, simprocAttr, stW5], rfl, ?_⟩
     rw [fail_of he]
     simp (disch := omega) only [go_sem, simprocAttr, stW5]
     exact hR2 _ (.le (by simp (disch := omega) only [go_sem, simprocAttr, stW5]))
 ·have hi : ¬ ((S.err : Int) = 0) := by omega
  rw [if_pos he] at hR2
  simp (disch := omega) only [go_sem, simprocAttr, stW5, hi]
  exact hR2 _ (.le (by simp (disch := omega) only [go_sem, simprocAttr, stW5]))
theorem block_kind {t : Bs} {most : Nat} {S : SS} (he : S.err = 0) (h : ¬ 8 * t.length < S.p + 3) :
    blockS t most S = (decide (numAt t S.p 1 = 1), kindS t most (numAt t (S.p + 1) 2) { S with p := S.p + 3 }) := by
 have hk : ∀ k, kindS t most k { S with p := S.p + 3 } = if k = 0 then storedS t most { S with p := S.p + 3 } else if k = 1 then packS t most fixL fixD { S with p := S.p + 3 }
  else if k = 2 then (if (dynS t { S with p := S.p + 3 }).2.err ≠ 0 then (dynS t { S with p := S.p + 3 }).2 else packS t most (dynS t { S with p := S.p + 3 }).1.1 (dynS t { S with p := S.p + 3 }).1.2 (dynS t { S with p := S.p + 3 }).2) else { S with p := S.p + 3, err := 3 } := fun k => if_neg (by simpa using he)
 rw [hk]
 exact if_neg h
set_option maxHeartbeats 2000000 in
theorem r5inflate_ok (x : Bs) (o most : Nat) (ho : o ≤ x.length) (ht : (x.drop o).length ≤ 1000000) (hx : x.length ≤ 4000000000000000000) (hm : most ≤ 65536) :
    SpecR Tryz.prog 58 [.str x, .int .i64 o, .int .i64 most] (.tup [.str (inflS (x.drop o) most).1, .int .i64 ((inflS (x.drop o) most).2.1 : Nat), .int .i64 ((inflS (x.drop o) most).2.2 : Nat)]) := by
 refine Cod.r5inflate_spec (fun E R hN hR => ?_)
 have c1 : ¬ ((o : Int) < 0) := by omega
 have c2 : ¬ ((x.length : Int) < (o : Int)) := by omega
 have c3 : ¬ ((most : Int) < 0) := by omega
 have c4 : ¬ ((65536 : Int) < (most : Int)) := by omega
 have hbits := r3bits_ok (x.drop o) ht
 simp (disch := first | omega | (simp only [Lx]; omega)) only [go_sem, simprocAttr, c1, c2, c3, c4]
 (repeat (first | refine gskip_of ?_ | refine gcskip_of ?_ | refine gopen_of ?_) <;> simp (disch := first | omega | (simp only [Lx]; omega)) only [go_sem, simprocAttr, c1, c2, c3, c4])
 generalize x.drop o = t at *
 have hbl := bits_len t
 refine call_ro hbits rfl rfl ?_
 simp (disch := first | omega | (simp only [Lx]; omega)) only [go_sem, simprocAttr]
 unfold inflS at hR
 simp only at hR
 generalize hRS : runS t most ⟨0, [], 0⟩ = RS at hR
 refine vcW_loop hN (fun S : SS => ⟨[(9, .vptr 79038 0)], stW5 t most S⟩) (fun S => OkS t most S ∧ (S.err = 0 → runS t most S = RS) ∧ (S.err ≠ 0 → RS = S)) (fun S => if S.err = 0 then 8 * t.length + 1 - S.p else 0) ⟨0, [], 0⟩
  (.nilV 79038 2 73035 1 [.ro 1 (bools (restB t 0)), .int .i64 0, .nilsl, .int .i64 most, .int .i64 0] (by simp (disch := first | omega | (simp only [Lx]; omega)) only [go_sem, simprocAttr]) rfl rfl (.le (by simp (disch := first | omega | (simp only [Lx]; omega)) only [go_sem, simprocAttr, stW5]))) ⟨⟨ht, by omega, by simp, by simp⟩, fun _ => hRS, fun h => absurd rfl h⟩ ?_
 rintro S R1 ⟨hok, hg, hb⟩ hR1
 by_cases he : S.err = 0
 ·have hg := hg he
  rw [run_eq hok.pl] at hg
  have hmb := mv_block (t := t) (most := most) (S := S)
  have hokb : OkS t most (blockS t most S).2 := hok.mv hmb.1
  generalize hS1 : (if 8 * t.length < S.p + 3 then { S with err := 6 } else S) = S1
  have hok1 : OkS t most S1 := by rw [← hS1]; split; exact hok.mv mv_err; exact hok
  have hpl := hok.pl
  have htl := hok.tl
  simp (disch := first | omega | (simp only [Lx]; omega)) only [go_sem, simprocAttr, stW5, he]
  refine vcW_cut hN (fun _ : Unit => ⟨[(9, .vptr 79038 0)], stW5 t most S1⟩) (fun _ => True) (fun R2 hR2 => ?_) (fun _ _ => ?_)
  ·subst hS1
   clear hR hR1
   by_cases hlt : 8 * t.length < S.p + 3
   ·rw [if_pos hlt] at hR2
    have hi : ((8 * t.length : Nat) : Int) - (S.p : Int) < 3 := by omega
    simp (disch := first | omega | (simp only [Lx]; omega)) only [go_sem, simprocAttr, stW5, he, hbl, hi]
    (repeat (first | refine gskip_of ?_ | refine gcskip_of ?_ | refine gopen_of ?_) <;> simp (disch := first | omega | (simp only [Lx]; omega)) only [go_sem, simprocAttr, he, hbl, hi])
    refine call_win (stW5 t most S) (r5fail_ok t most S 6) (by simp (disch := first | omega | (simp only [Lx]; omega)) only [go_sem, simprocAttr, stW5, he]) nofun ?_
    rintro h' v ar ⟨rfl, rfl, rfl⟩
    refine ⟨by simp (disch := first | omega | (simp only [Lx]; omega)) only [go_sem, simprocAttr, stW5], rfl, ?_⟩
    rw [fail_of he]
    simp (disch := first | omega | (simp only [Lx]; omega)) only [go_sem, simprocAttr, stW5]
    exact hR2 () _ trivial (.le (by simp (disch := first | omega | (simp only [Lx]; omega)) only [go_sem, simprocAttr, stW5]))
   ·rw [if_neg hlt] at hR2
    have hi : ¬ ((8 * t.length : Nat) : Int) - (S.p : Int) < 3 := by omega
    simp (disch := first | omega | (simp only [Lx]; omega)) only [go_sem, simprocAttr, stW5, he, hbl, hi]
    (repeat (first | refine gskip_of ?_ | refine gcskip_of ?_ | refine gopen_of ?_) <;> simp (disch := first | omega | (simp only [Lx]; omega)) only [go_sem, simprocAttr, he, hbl, hi])
    exact hR2 () _ trivial (.le (by simp (disch := first | omega | (simp only [Lx]; omega)) only [go_sem, simprocAttr, stW5, he]))
  ·have ha := r5num_ok t most S1 hok1 1 (by decide)
   have hoka : OkS t most (numS t 1 S1).2 := hok1.mv mv_num
   have hla := numS_lt (t := t) (n := 1) (S := S1)
   generalize hea : numS t 1 S1 = a at *
   have hbn := r5num_ok t most a.2 hoka 2 (by decide)
   have hokb2 : OkS t most (numS t 2 a.2).2 := hoka.mv mv_num
   have hlb := numS_lt (t := t) (n := 2) (S := a.2)
   generalize heb : numS t 2 a.2 = b at *
   have hkk : (blockS t most S).2 = kindS t most b.1 b.2 ∧ ((blockS t most S).2.err = 0 → ((blockS t most S).1 = true ↔ a.1 = 1)) := by
    by_cases hlt : 8 * t.length < S.p + 3
    ·rw [if_pos hlt] at hS1
     have h1 : S1.err ≠ 0 := by rw [← hS1]; simp
     rw [num_err h1] at hea
     subst hea
     rw [num_err h1] at heb
     subst heb
     have hbk : blockS t most S = (true, { S with err := 6 }) := if_pos hlt
     rw [hbk]
     refine ⟨?_, fun h => absurd h (by simp)⟩
     unfold kindS
     rw [if_pos h1, hS1]
    ·rw [if_neg hlt] at hS1
     subst hS1
     obtain ⟨w1, w2⟩ := blockS_n he hlt
     rw [w1] at hea
     subst hea
     simp only at heb
     rw [w2] at heb
     subst heb
     rw [block_kind he hlt]
     exact ⟨rfl, fun _ => by simp⟩
   obtain ⟨hk1, hk2⟩ := hkk
   generalize blockS t most S = B at *
   simp (disch := first | omega | (simp only [Lx]; omega)) only [go_sem, simprocAttr, stW5]
   refine call_win (stW5 t most S1) ha (by simp (disch := first | omega | (simp only [Lx]; omega)) only [go_sem, simprocAttr, stW5]) nofun ?_
   rintro h' v ar ⟨rfl, rfl, rfl⟩
   refine ⟨by simp (disch := first | omega | (simp only [Lx]; omega)) only [go_sem, simprocAttr, stW5], rfl, ?_⟩
   simp (disch := first | omega | (simp only [Lx]; omega)) only [go_sem, simprocAttr, stW5]
   refine call_win (stW5 t most a.2) hbn (by simp (disch := first | omega | (simp only [Lx]; omega)) only [go_sem, simprocAttr, stW5]) nofun ?_
   rintro h' v ar ⟨rfl, rfl, rfl⟩
   refine ⟨by simp (disch := first | omega | (simp only [Lx]; omega)) only [go_sem, simprocAttr, stW5], rfl, ?_⟩
   simp (disch := first | omega | (simp only [Lx]; omega)) only [go_sem, simprocAttr, stW5]
   refine vcW_cut hN (fun _ : Unit => ⟨[(9, .vptr 79038 0), (10, .int .i64 a.1)], stW5 t most B.2⟩) (fun _ => True) (fun R2 hR2 => ?_) (fun _ _ => ?_)
   ·have hkd := kind_ok t most b.1 b.2 a.1 (E := E) (R2 := R2) (Q := KQ.blk 1 (KQ.rnd R1 (KQ.blk 0 (KQ.seq Tryz.prog E Cod.r5inflate_4 (KQ.post [RVar.tmp 6, RVar.tmp 7, RVar.tmp 8] 3 R))))) hN hokb2 hlb (fun st' hw => hR2 () _ trivial (by rw [hk1]; exact hw))
    simp only [stW5] at hkd
    exact hkd
   ·by_cases hBe : B.2.err = 0
    ·by_cases ha1 : a.1 = 1
     ·have hB1 := (hk2 hBe).2 ha1
      rw [if_pos (.inr hB1)] at hg
      subst hg
      rw [if_neg (by simpa using hBe)] at hR
      have hup := r3up_ok B.2.p (by have := hokb.pl; omega)
      have hi : ((a.1 : Nat) : Int) = 1 := by omega
      have hup2 := up8 B.2.p
      have hub : upB B.2.p ≤ B.2.p + 8 := by unfold upB; omega
      have := hokb.pl
      have := hokb.ol
      simp (disch := first | omega | (simp only [Lx]; omega)) only [go_sem, simprocAttr, stW5, hBe, hi]
      (repeat (first | refine gskip_of ?_ | refine gcskip_of ?_ | refine gopen_of ?_) <;> simp (disch := first | omega | (simp only [Lx]; omega)) only [go_sem, simprocAttr, hBe, hi])
      refine call_ro hup rfl rfl ?_
      generalize upB B.2.p = ub at *
      have e8 : (ub : Int) / 8 = (((B.2.p + 7) / 8 : Nat) : Int) := by omega
      simp (disch := first | omega | (simp only [Lx]; omega)) only [go_sem, simprocAttr, e8]
      exact hR.wk (h' := []) (r' := .tup [.str B.2.out, .int .i64 ((B.2.p + 7) / 8 : Nat), .int .i64 (0 : Nat)]) (ar' := [.undef, .undef, .undef]) rfl (.le (by simp (disch := first | omega | (simp only [Lx]; omega)) only [go_sem, simprocAttr])) ⟨rfl, rfl⟩
     ·have hB1 : ¬ B.1 = true := fun h => ha1 ((hk2 hBe).1 h)
      have hi : ¬ ((a.1 : Nat) : Int) = 1 := by omega
      rw [if_neg (fun h => h.elim (fun h => h hBe) hB1)] at hg
      simp (disch := first | omega | (simp only [Lx]; omega)) only [go_sem, simprocAttr, stW5, hBe, hi]
      (repeat (first | refine gskip_of ?_ | refine gcskip_of ?_ | refine gopen_of ?_) <;> simp (disch := first | omega | (simp only [Lx]; omega)) only [go_sem, simprocAttr, hBe, hi])
      exact hR1 B.2 _ (by simp only [if_pos hBe, if_pos he]; have := hmb.2 hBe; omega) ⟨hokb, fun _ => hg, fun h => absurd hBe h⟩ (.le (by simp (disch := first | omega | (simp only [Lx]; omega)) only [go_sem, simprocAttr, stW5, hBe]))
    ·rw [if_pos (.inl hBe)] at hg
     have hi : ¬ ((B.2.err : Int) = 0) := by omega
     simp (disch := first | omega | (simp only [Lx]; omega)) only [go_sem, simprocAttr, stW5, hi]
     (repeat (first | refine gskip_of ?_ | refine gcskip_of ?_ | refine gopen_of ?_) <;> simp (disch := first | omega | (simp only [Lx]; omega)) only [go_sem, simprocAttr, hi])
     exact hR1 B.2 _ (by simp only [if_neg hBe, if_pos he]; omega) ⟨hokb, fun h => absurd h hBe, fun _ => hg.symm⟩ (.le (by simp (disch := first | omega | (simp only [Lx]; omega)) only [go_sem, simprocAttr, stW5]))
 ·obtain rfl := hb he
  rw [if_pos he] at hR
  have hi : ¬ ((RS.err : Int) = 0) := by omega
  simp (disch := first | omega | (simp only [Lx]; omega)) only [go_sem, simprocAttr, stW5, hi]
  (repeat (first | refine gskip_of ?_ | refine gcskip_of ?_ | refine gopen_of ?_) <;> simp (disch := first | omega | (simp only [Lx]; omega)) only [go_sem, simprocAttr, hi])
  exact hR.wk (h' := []) (r' := .tup [.str [], .int .i64 (0 : Nat), .int .i64 (RS.err : Nat)]) (ar' := [.undef, .undef, .undef]) rfl (.le (by simp (disch := first | omega | (simp only [Lx]; omega)) only [go_sem, simprocAttr])) ⟨rfl, rfl⟩
end Go.Proofs.YtjoefngnjoofeaaGreatDoor.Pk
namespace Go.Proofs.YtjoefngnjoofeaaGreatDoor.Pk
open Eng
set_option maxRecDepth 10000
def IST : Nat := 65032
def OUTI : Nat := 60022
attribute [go_sem] IST OUTI
def stI (s : Bs) (o most a hv : Nat) (out : Bs) : HP := [(IST, .var [.vptr RD 0, .sl OUTI 0 out.length, .int .i64 most]), (OUTI, .arr 1 (out.map ub)), (RD, .var (rdA s a hv o))]
theorem iput_ok (s : Bs) (o most a hv : Nat) (out : Bs) (hm : most ≤ 1000000) (ho : out.length ≤ most) (c : UInt8) : Eng.Spec Tryz.prog 107 (stI s o most a hv out) [.vptr IST 0, .int .u8 (c.toNat : Int)]
    (fun h' v ar => h' = stI s o most a hv (if out.length = most then out else out ++ [c]) ∧ v = .int .i64 (if out.length = most then 2 else 0 : Nat) ∧ ar = [.vptr IST 0, .int .u8 (c.toNat : Int)]) := by
 refine Cod.iput_spec (fun E R hN hR => ?_)
 have hc := c.toNat_lt
 by_cases hf : out.length = most
 ·rw [if_pos hf, if_pos hf] at hR
  simp (disch := omega) only [go_sem, simprocAttr, stI, rdA]
  (repeat (first | refine gskip_of ?_ | refine gcskip_of ?_ | refine gopen_of ?_) <;> simp (disch := omega) only [go_sem, simprocAttr])
  exact hR.le (by simp (disch := omega) only [go_sem, simprocAttr, stI, rdA]) ⟨rfl, rfl, rfl⟩
 ·rw [if_neg hf, if_neg hf] at hR
  simp (disch := omega) only [go_sem, simprocAttr, stI, rdA]
  (repeat (first | refine gskip_of ?_ | refine gcskip_of ?_ | refine gopen_of ?_) <;> simp (disch := omega) only [go_sem, simprocAttr])
  refine hR.le ?_ ⟨rfl, rfl, rfl⟩
  simp (disch := omega) only [go_sem, simprocAttr, stI, rdA]
  rw [UInt8.ofNat_toNat]
theorem len_wrap : ∀ i : Nat, i < 28 → 8 ≤ i → IntKind.i64.wrap (3 + IntKind.i64.wrap ((4 + (i : Int) % 4) * 2 ^ min ((i : Int) / 4 - 1).toNat 64)) = ((3 + (4 + i % 4) * 2 ^ (i / 4 - 1) : Nat) : Int) ∧ (i : Int) / 4 - 1 = ((i / 4 - 1 : Nat) : Int) := by decide +kernel
theorem dis_wrap : ∀ i : Nat, i < 30 → 4 ≤ i → IntKind.i64.wrap (1 + IntKind.i64.wrap ((2 + (i : Int) % 2) * 2 ^ min ((i : Int) / 2 - 1).toNat 64)) = ((1 + (2 + i % 2) * 2 ^ (i / 2 - 1) : Nat) : Int) ∧ (i : Int) / 2 - 1 = ((i / 2 - 1 : Nat) : Int) := by decide +kernel
theorem ilenb_ok (i : Nat) (hi : i ≤ 28) : SpecR Tryz.prog 96 [.int .i64 i] (.tup [.int .i64 ((lenB i).1 : Nat), .int .i64 ((lenB i).2 : Nat)]) := by
 refine Cod.ilenb_spec (fun E R hN hR => ?_)
 by_cases h28 : i = 28
 ·subst h28
  simp (disch := omega) only [go_sem, simprocAttr]
  exact hR.le (by simp (disch := omega) only [go_sem, simprocAttr]) ⟨rfl, rfl⟩
 ·by_cases h8 : i < 8
  ·have e : lenB i = (3 + i, 0) := by unfold lenB; rw [if_neg h28, if_pos h8]
   rw [e] at hR
   simp (disch := omega) only [go_sem, simprocAttr]
   (repeat (first | refine gskip_of ?_ | refine gcskip_of ?_ | refine gopen_of ?_) <;> simp (disch := omega) only [go_sem, simprocAttr])
   exact hR.le (by simp (disch := omega) only [go_sem, simprocAttr]) ⟨rfl, rfl⟩
  ·have e : lenB i = (3 + (4 + i % 4) * 2 ^ (i / 4 - 1), i / 4 - 1) := by unfold lenB; rw [if_neg h28, if_neg h8]
   rw [e] at hR
   simp (disch := omega) only [go_sem, simprocAttr]
   (repeat (first | refine gskip_of ?_ | refine gcskip_of ?_ | refine gopen_of ?_) <;> simp (disch := omega) only [go_sem, simprocAttr])
   obtain ⟨w1, w2⟩ := len_wrap i (by omega) (by omega)
   rw [w1, w2]
   exact hR.le (by simp (disch := omega) only [go_sem, simprocAttr]) ⟨rfl, rfl⟩
theorem idisb_ok (i : Nat) (hi : i ≤ 29) : SpecR Tryz.prog 97 [.int .i64 i] (.tup [.int .i64 ((disB i).1 : Nat), .int .i64 ((disB i).2 : Nat)]) := by
 refine Cod.idisb_spec (fun E R hN hR => ?_)
 by_cases h4 : i < 4
 ·have e : disB i = (1 + i, 0) := by unfold disB; rw [if_pos h4]
  rw [e] at hR
  simp (disch := omega) only [go_sem, simprocAttr]
  (repeat (first | refine gskip_of ?_ | refine gcskip_of ?_ | refine gopen_of ?_) <;> simp (disch := omega) only [go_sem, simprocAttr])
  exact hR.le (by simp (disch := omega) only [go_sem, simprocAttr]) ⟨rfl, rfl⟩
 ·have e : disB i = (1 + (2 + i % 2) * 2 ^ (i / 2 - 1), i / 2 - 1) := by unfold disB; rw [if_neg h4]
  rw [e] at hR
  simp (disch := omega) only [go_sem, simprocAttr]
  (repeat (first | refine gskip_of ?_ | refine gcskip_of ?_ | refine gopen_of ?_) <;> simp (disch := omega) only [go_sem, simprocAttr])
  obtain ⟨w1, w2⟩ := dis_wrap i (by omega) (by omega)
  rw [w1, w2]
  exact hR.le (by simp (disch := omega) only [go_sem, simprocAttr]) ⟨rfl, rfl⟩
def PI (s : Bs) (o most : Nat) (F : SS) (h' : HP) (v : AV) : Prop :=
 ∃ a' hv' out', h' = stI s o most a' hv' out' ∧ v = .int .i64 (F.err : Nat) ∧ (F.err = 0 → out' = F.out ∧ RdOK s a' hv' (8 * o + F.p))
theorem pi_of {s : Bs} {o most : Nat} {F : SS} {h' : HP} {v : AV} (h : ∃ a' hv' S', h' = stI s o most a' hv' S'.out ∧ RdOK s a' hv' (8 * o + S'.p) ∧ S'.out.length ≤ most ∧ v = .int .i64 (F.err : Nat) ∧ (F.err = 0 → S' = F)) : PI s o most F h' v := by
 obtain ⟨a', hv', S', h1, h2, _, h4, h5⟩ := h
 exact ⟨a', hv', S'.out, h1, h4, fun he => by obtain rfl := h5 he; exact ⟨rfl, h2⟩⟩
theorem left_drop (s : Bs) (o p : Nat) : leftB s (8 * o + p) = 8 * (s.drop o).length - p := by unfold leftB; rw [List.length_drop]; omega
theorem drop_two (s : Bs) (q : Nat) (h : q + 2 ≤ s.length) : (s.drop q).take 2 = [s.getD q 0, s.getD (q + 1) 0] := by
 have h1 : q < s.length := by omega
 have h2 : q + 1 < s.length := by omega
 rw [List.drop_eq_getElem_cons h1, List.drop_eq_getElem_cons h2, List.getD_eq_getElem?_getD, List.getD_eq_getElem?_getD, List.getElem?_eq_getElem h1, List.getElem?_eq_getElem h2]
 rfl
theorem little_ok (x y : UInt8) : SpecR Tryz.prog 122 [.str [x, y]] (.int .u64 ((x.toNat + y.toNat * 2 ^ 8 : Nat) : Int)) := by
 refine Cod.fromlittle_spec (fun E R hN hR => ?_)
 have hx := x.toNat_lt
 have hy := y.toNat_lt
 simp (disch := omega) only [go_sem, simprocAttr]
 refine vcW_loop hN (fun i : Nat => ⟨[(0, .str [x, y]), (3, .int .u64 (if i = 0 then 0 else if i = 1 then x.toNat else x.toNat + y.toNat * 2 ^ 8 : Nat)), (7, .int .i64 2), (8, .int .i64 i)], []⟩) (fun i => i ≤ 2) (fun i => 2 - i) 0 (.le (by simp (disch := omega) only [go_sem, simprocAttr])) (by omega) ?_
 rintro i R1 hi hR1
 obtain rfl | rfl | rfl : i = 0 ∨ i = 1 ∨ i = 2 := by omega
 ·have e0 : bits .or .u64 0 (IntKind.u64.wrap ((x.toNat : Int) * 2 ^ min 0 64)) = ((x.toNat : Nat) : Int) := (or_fill (x := 0) (k := 0) (b := x.toNat) (by decide) (by decide) hx).trans (by rw [Nat.zero_add, Nat.pow_zero, Nat.mul_one])
  simp (disch := omega) only [go_sem, simprocAttr, e0]
  exact hR1 1 _ (by omega) (by omega) (.le (by simp (disch := omega) only [go_sem, simprocAttr]))
 ·have e1 : bits .or .u64 (x.toNat : Int) (IntKind.u64.wrap ((y.toNat : Int) * 2 ^ min 8 64)) = ((x.toNat + y.toNat * 2 ^ 8 : Nat) : Int) := or_fill (k := 8) hx (by decide) hy
  simp (disch := omega) only [go_sem, simprocAttr, e1]
  exact hR1 2 _ (by omega) (by omega) (.le (by simp (disch := omega) only [go_sem, simprocAttr]))
 ·simp (disch := omega) only [go_sem, simprocAttr]
  exact hR.le (by simp (disch := omega) only [go_sem, simprocAttr]) ⟨rfl, rfl⟩
end Go.Proofs.YtjoefngnjoofeaaGreatDoor.Pk
namespace Go.Proofs.YtjoefngnjoofeaaGreatDoor.Pk
open Eng
set_option maxRecDepth 10000
theorem raw_err (t : Bs) (most : Nat) {S : SS} (h : S.err ≠ 0) : ∀ n, rawS t most n S = S
 | 0 => rfl
 | n + 1 => by rw [raw_succ, if_pos h]
theorem raw_law (t : Bs) (most : Nat) : ∀ (n : Nat) (S : SS) (q : Nat), S.err = 0 → S.p = 8 * q → q ≤ t.length → S.out.length ≤ most →
    (rawS t most n S).err = (if most < S.out.length + min n (t.length - q) then 2 else if t.length < q + n then 6 else 0) ∧ ((rawS t most n S).err = 0 → rawS t most n S = ⟨8 * (q + n), S.out ++ (t.drop q).take n, 0⟩)
 | 0, S, q, he, hp, hq, ho => by
  refine ⟨?_, fun _ => ?_⟩
  ·rw [if_neg (by omega), if_neg (by omega)]; exact he
  ·obtain ⟨p, out, err⟩ := S
   simp only at he hp
   subst he hp
   simp [rawS]
 | n + 1, S, q, he, hp, hq, ho => by
  rw [raw_succ, if_neg (by simpa using he)]
  by_cases hq1 : q = t.length
  ·have hn := num_no (n := 8) he (t := t) (by omega)
   rw [hn]
   have hput : putS most (UInt8.ofNat (0, { S with err := 6 }).1) (0, { S with err := 6 }).2 = { S with err := 6 } := if_pos (by simp)
   rw [hput, raw_err _ _ (by simp)]
   refine ⟨?_, fun h => absurd h (by simp)⟩
   rw [if_neg (by omega), if_pos (by omega)]
  ·have hn := num_ok (n := 8) he (t := t) (by omega)
   rw [hn]
   simp only
   rw [hp, num_byte, UInt8.ofNat_toNat]
   unfold putS
   rw [if_neg (by simpa using he)]
   by_cases hf : most ≤ S.out.length
   ·simp only [if_pos hf]
    rw [raw_err _ _ (by simp)]
    refine ⟨?_, fun h => absurd h (by simp)⟩
    rw [if_pos (by omega)]
   ·simp only [if_neg hf]
    obtain ⟨h1, h2⟩ := raw_law t most n { p := 8 * q + 8, out := S.out ++ [t.getD q 0], err := S.err } (q + 1) he (by simp only; omega) (by omega) (by simp only [List.length_append, List.length_singleton]; omega)
    refine ⟨?_, fun h => ?_⟩
    ·rw [h1]
     simp only [List.length_append, List.length_singleton]
     rw [show S.out.length + 1 + min n (t.length - (q + 1)) = S.out.length + min (n + 1) (t.length - q) by omega, show q + 1 + n = q + (n + 1) by omega]
    ·rw [h2 h]
     have hlt : q < t.length := by omega
     rw [List.drop_eq_getElem_cons hlt, List.take_succ_cons, List.getD_eq_getElem?_getD, List.getElem?_eq_getElem hlt, show q + 1 + n = q + (n + 1) by omega]
     simp
theorem stored_law (t : Bs) (most : Nat) (S : SS) (he : S.err = 0) (hp : S.p ≤ 8 * t.length) (ho : S.out.length ≤ most) (q : Nat) (hq : upB S.p = 8 * q) :
    if t.length < q + 4 then (storedS t most S).err = 6 else
     if (t.getD q 0).toNat + (t.getD (q + 1) 0).toNat * 2 ^ 8 + ((t.getD (q + 2) 0).toNat + (t.getD (q + 3) 0).toNat * 2 ^ 8) ≠ 65535 then (storedS t most S).err = 3 else
     (storedS t most S).err = (if most < S.out.length + min ((t.getD q 0).toNat + (t.getD (q + 1) 0).toNat * 2 ^ 8) (t.length - (q + 4)) then 2 else if t.length < q + 4 + ((t.getD q 0).toNat + (t.getD (q + 1) 0).toNat * 2 ^ 8) then 6 else 0) ∧
     ((storedS t most S).err = 0 → storedS t most S = ⟨8 * (q + 4 + ((t.getD q 0).toNat + (t.getD (q + 1) 0).toNat * 2 ^ 8)), S.out ++ (t.drop (q + 4)).take ((t.getD q 0).toNat + (t.getD (q + 1) 0).toNat * 2 ^ 8), 0⟩) := by
 have hn16 : ∀ i, numAt t (8 * i) 16 = (t.getD i 0).toNat + (t.getD (i + 1) 0).toNat * 2 ^ 8 := by
  intro i
  rw [show (16 : Nat) = 8 + 8 from rfl, num_two, num_byte, show 8 * i + 8 = 8 * (i + 1) by omega, num_byte]
 have hup : upS S = { S with p := 8 * q } := by unfold upS; unfold upB at hq; rw [hq]
 have hq2 : q ≤ t.length := by unfold upB at hq; omega
 unfold storedS
 simp only
 rw [hup]
 by_cases h4 : t.length < q + 4
 ·rw [if_pos h4]
  by_cases h2 : t.length < q + 2
  ·rw [num_no (by exact he) (by simp only; omega)]
   simp only
   rw [num_err (by simp)]
   simp only
   rw [if_pos (by decide)]
   rw [raw_err _ _ (fail_err (by decide))]
   rfl
  ·rw [num_ok (by exact he) (by simp only; omega)]
   simp only
   rw [num_no (by exact he) (by simp only; omega)]
   simp only
   have hfe : failS 3 { p := 8 * q + 16, out := S.out, err := 6 } = ({ p := 8 * q + 16, out := S.out, err := 6 } : SS) := if_neg (by simp)
   rw [hfe, ite_self, raw_err _ _ (by simp)]
 ·rw [if_neg h4]
  rw [num_ok (by exact he) (by simp only; omega)]
  simp only
  rw [num_ok (by exact he) (by simp only; omega)]
  simp only
  rw [show 8 * q + 16 = 8 * (q + 2) by omega, hn16, hn16]
  by_cases hx : (t.getD q 0).toNat + (t.getD (q + 1) 0).toNat * 2 ^ 8 + ((t.getD (q + 2) 0).toNat + (t.getD (q + 2 + 1) 0).toNat * 2 ^ 8) ≠ 65535
  ·rw [if_pos hx, if_pos hx, raw_err _ _ (fail_err (by decide)), fail_of (by exact he)]
  ·rw [if_neg hx, if_neg hx]
   exact raw_law t most _ _ (q + 4) he (by simp only; omega) (by omega) ho
end Go.Proofs.YtjoefngnjoofeaaGreatDoor.Pk
namespace Go.Proofs.YtjoefngnjoofeaaGreatDoor.Pk
open Eng
set_option maxRecDepth 10000
theorem rused_bor (s : Bs) (a hv fr p : Nat) (hs : s.length ≤ 1000000000000) (h : RdOK s a hv p) (hfr : 8 * fr ≤ p) : Eng.Spec Tryz.prog 78 [] [.elt (.agg (rdA s a hv fr))] (fun h' v ar => h' = [] ∧ v = .int .i64 ((p + 7) / 8 - fr : Nat) ∧ ar = [.elt (.agg (rdA s a hv fr))]) := by
 refine Cod.rused_spec (fun E R hN hR => ?_)
 obtain ⟨h1, h2, h3⟩ := h
 have eq : (hv : Int).tdiv 8 = ((hv / 8 : Nat) : Int) := by rw [tdiv_pos (by omega)]; omega
 have e2 : (a : Int) - ((hv / 8 : Nat) : Int) - (fr : Int) = (((p + 7) / 8 - fr : Nat) : Int) := by omega
 simp (disch := omega) only [go_sem, simprocAttr, rdA, eq, e2]
 exact hR.le (by simp (disch := omega) only [go_sem, simprocAttr]) ⟨rfl, rfl, rfl⟩
theorem rleft_bor (s : Bs) (a hv fr p : Nat) (hs : s.length ≤ 1000000000000) (h : RdOK s a hv p) : Eng.Spec Tryz.prog 123 [] [.elt (.agg (rdA s a hv fr))] (fun h' v ar => h' = [] ∧ v = .int .i64 (leftB s p : Nat) ∧ ar = [.elt (.agg (rdA s a hv fr))]) := by
 refine Cod.rleft_spec (fun E R hN hR => ?_)
 obtain ⟨h1, h2, h3⟩ := h
 have e2 : 8 * ((s.length : Int) - (a : Int)) + (hv : Int) = ((leftB s p : Nat) : Int) := by unfold leftB; omega
 simp (disch := omega) only [go_sem, simprocAttr, rdA, e2]
 exact hR.le (by simp (disch := omega) only [go_sem, simprocAttr]) ⟨rfl, rfl, rfl⟩
theorem take4 (s : Bs) (q : Nat) (h : q + 4 ≤ s.length) : (s.drop q).take 4 = [s.getD q 0, s.getD (q + 1) 0, s.getD (q + 2) 0, s.getD (q + 3) 0] := by
 have e : (s.drop q).take 4 = (s.drop q).take 2 ++ (s.drop (q + 2)).take 2 := by rw [show (4 : Nat) = 2 + 2 from rfl, List.take_add, List.drop_drop]
 rw [e, drop_two s q (by omega), drop_two s (q + 2) (by omega)]
 rfl
theorem xor_all {n : Nat} (h : n < 65536) : n ^^^ 65535 = 65535 - n := by
 have h1 : (BitVec.ofNat 16 n ^^^ BitVec.allOnes 16).toNat = (~~~ (BitVec.ofNat 16 n)).toNat := by rw [BitVec.xor_allOnes]
 rw [BitVec.toNat_xor, BitVec.toNat_not, BitVec.toNat_ofNat, BitVec.toNat_allOnes, Nat.mod_eq_of_lt (by omega)] at h1
 omega
set_option maxHeartbeats 1000000 in
theorem istored_ok (s : Bs) (o most a hv : Nat) (S : SS) (hs : s.length ≤ 1000000000) (ho : o ≤ s.length) (hm : most ≤ 1000000) (hr : RdOK s a hv (8 * o + S.p)) (hol : S.out.length ≤ most) (he : S.err = 0) :
    Eng.Spec Tryz.prog 104 (stI s o most a hv S.out) [.vptr IST 0] (fun h' v ar => PI s o most (storedS (s.drop o) most S) h' v ∧ ar = [.vptr IST 0]) := by
 refine Cod.istored_spec (fun E R hN hR => ?_)
 obtain ⟨q, hq⟩ : ∃ q, upB S.p = 8 * q := ⟨(S.p + 7) / 8, by unfold upB; omega⟩
 have hr' := hr
 obtain ⟨r1, r2, r3⟩ := hr'
 have hpl : S.p ≤ 8 * (s.drop o).length := by rw [List.length_drop]; omega
 have hup : upB (8 * o + S.p) = 8 * (o + q) := by unfold upB at hq ⊢; omega
 have hud : upB (8 * o + S.p) / 8 = o + q := by omega
 have law := stored_law (s.drop o) most S he hpl hol q hq
 generalize storedS (s.drop o) most S = F at *
 have gd : ∀ i, (s.drop o).getD i 0 = s.getD (o + i) 0 := fun i => by rw [List.getD_eq_getElem?_getD, List.getElem?_drop, ← List.getD_eq_getElem?_getD]
 rw [gd, gd, gd, gd, List.length_drop, List.drop_drop] at law
 have hb := rbytes_ok s a hv o (8 * o + S.p) 4 (by omega) (by decide) hr
 rw [hud] at hb
 simp (disch := omega) only [go_sem, simprocAttr, stI]
 refine call_win [(RD, .var (rdA s a hv o))] hb (by simp (disch := omega) only [go_sem, simprocAttr]) nofun ?_
 rintro h' v ar ⟨a1, hv1, hr1, hz1, rfl, rfl, rfl⟩
 by_cases h4 : s.length < o + q + 4
 ·rw [if_neg (by omega)] at hr1
  rw [if_neg (by omega), decide_eq_false (by omega)]
  rw [if_pos (by omega)] at law
  refine ⟨by simp (disch := omega) only [go_sem, simprocAttr, rdA], rfl, ?_⟩
  simp (disch := omega) only [go_sem, simprocAttr, rdA]
  exact hR.le (h' := stI s o most a1 hv1 S.out) (by simp (disch := omega) only [go_sem, simprocAttr, stI, rdA]) ⟨pi_of ⟨a1, hv1, { S with p := 8 * q, err := 6 }, rfl, by simp only; rw [show 8 * o + 8 * q = 8 * (o + q) by omega, ← hup]; exact hr1, hol, by rw [law]; rfl, fun h => absurd h (by rw [law]; decide)⟩, rfl⟩
 ·rw [if_pos (by omega)] at hr1
  rw [if_pos (by omega), decide_eq_true (by omega), take4 s (o + q) (by omega)]
  rw [if_neg (by omega)] at law
  generalize s.getD (o + q) 0 = c0 at *
  generalize s.getD (o + (q + 1)) 0 = c1 at *
  generalize s.getD (o + (q + 2)) 0 = c2 at *
  generalize s.getD (o + (q + 3)) 0 = c3 at *
  have hc0 := c0.toNat_lt
  have hc1 := c1.toNat_lt
  have hc2 := c2.toNat_lt
  have hc3 := c3.toNat_lt
  have l1 := little_ok c0 c1
  have l2 := little_ok c2 c3
  generalize hn : c0.toNat + c1.toNat * 2 ^ 8 = n at *
  generalize hk : c2.toNat + c3.toNat * 2 ^ 8 = k at *
  have hn6 : n < 65536 := by omega
  have hk6 : k < 65536 := by omega
  refine ⟨by simp (disch := omega) only [go_sem, simprocAttr, rdA], rfl, ?_⟩
  simp (disch := omega) only [go_sem, simprocAttr, rdA]
  refine call_ro l1 rfl rfl ?_
  simp (disch := omega) only [go_sem, simprocAttr]
  refine call_ro l2 rfl rfl ?_
  have ex : bits .xor .i64 (n : Int) 65535 = ((65535 - n : Nat) : Int) := by
   show IntKind.i64.wrap ((BitVec.ofInt 64 (n : Int) ^^^ BitVec.ofInt 64 ((65535 : Nat) : Int)).toNat : Int) = _
   rw [BitVec.ofInt_natCast, BitVec.ofInt_natCast, BitVec.toNat_xor, BitVec.toNat_ofNat, BitVec.toNat_ofNat, Nat.mod_eq_of_lt (by omega), Nat.mod_eq_of_lt (by decide), xor_all hn6]
   exact wrap_id (by omega)
  simp (disch := omega) only [go_sem, simprocAttr, ex]
  by_cases hx : n + k ≠ 65535
  ·rw [if_pos hx] at law
   have hne : ¬ ((65535 - n : Nat) : Int) = (k : Int) := by omega
   simp (disch := omega) only [go_sem, simprocAttr, hne]
   exact hR.le (h' := stI s o most a1 hv1 S.out) (by simp (disch := omega) only [go_sem, simprocAttr, stI, rdA]) ⟨pi_of ⟨a1, hv1, { S with p := 8 * (q + 4), err := 3 }, rfl, by simp only; rw [hup] at hr1; rw [show 8 * o + 8 * (q + 4) = 8 * (o + q) + 8 * 4 by omega]; exact hr1, hol, by rw [law]; rfl, fun h => absurd h (by rw [law]; decide)⟩, rfl⟩
  ·rw [if_neg hx] at law
   have heq : ((65535 - n : Nat) : Int) = (k : Int) := by omega
   obtain ⟨law1, law2⟩ := law
   have hr1' : RdOK s a1 hv1 (8 * (o + q + 4)) := by rw [hup] at hr1; rw [show 8 * (o + q + 4) = 8 * (o + q) + 8 * 4 by omega]; exact hr1
   have hup1 : upB (8 * (o + q + 4)) = 8 * (o + q + 4) := by unfold upB; omega
   have hb2 := rbytes_ok s a1 hv1 o (8 * (o + q + 4)) n (by omega) (by omega) hr1'
   rw [hup1, Nat.mul_div_cancel_left _ (by decide)] at hb2
   simp (disch := omega) only [go_sem, simprocAttr, heq]
   refine call_win [(RD, .var (rdA s a1 hv1 o))] hb2 (by simp (disch := omega) only [go_sem, simprocAttr, rdA]) nofun ?_
   rintro h' v ar ⟨a2, hv2, hr2, hz2, rfl, rfl, rfl⟩
   have key : ∀ (ok : Bool) (x : Bs), ok = decide (n ≤ s.length - (o + q + 4)) → x = (if n ≤ s.length - (o + q + 4) then (s.drop (o + q + 4)).take n else []) →
    vcW Tryz.prog E Cod.istored_6 (KQ.post [RVar.tmp 2] 1 R) ⟨[(0, .vptr 65032 0), (4, .bool ok), (6, .str x), (2000000, .vptr 65032 0)], [(40014, .var (rdA s a2 hv2 o)), (65032, .var [.vptr 40014 0, .sl 60022 0 S.out.length, .int .i64 most]), (60022, .arr 1 (S.out.map ub))]⟩ := by
    intro ok x hok hv4
    refine vcW_cut hN (fun z : Nat × Nat => ⟨[(0, .vptr IST 0), (4, .bool ok), (6, .str ((s.drop (o + q + 4)).take n)), (2000000, .vptr IST 0)], stI s o most z.1 z.2 S.out⟩) (fun z => RdOK s z.1 z.2 (8 * (o + q + 4 + min n (s.length - (o + q + 4))))) (fun R2 hR2 => ?_) (fun z hz => ?_)
    ·clear hR
     subst hok
     subst hv4
     by_cases hfit : n ≤ s.length - (o + q + 4)
     ·rw [if_pos hfit] at hr2
      rw [if_pos hfit, decide_eq_true hfit]
      simp (disch := omega) only [go_sem, simprocAttr, stI, rdA]
      refine hR2 (a2, hv2) _ (by simp only; rw [Nat.min_eq_left hfit, show 8 * (o + q + 4 + n) = 8 * (o + q + 4) + 8 * n by omega]; exact hr2) (.le ?_)
      simp (disch := omega) only [go_sem, simprocAttr, stI, rdA]
     ·rw [if_neg hfit] at hr2
      rw [if_neg hfit, decide_eq_false hfit]
      have hlb := rleft_bor s a2 hv2 o _ (by omega) hr2
      have el : leftB s (8 * (o + q + 4)) / 8 = s.length - (o + q + 4) := by unfold leftB; omega
      have hb3 := rbytes_ok s a2 hv2 o _ (s.length - (o + q + 4)) (by omega) (by omega) hr2
      rw [hup1, Nat.mul_div_cancel_left _ (by decide), if_pos (Nat.le_refl _)] at hb3
      generalize leftB s (8 * (o + q + 4)) = lb at *
      have elb : (lb : Int) / 8 = ((s.length - (o + q + 4) : Nat) : Int) := by omega
      simp only [rdA] at hlb
      simp (disch := omega) only [go_sem, simprocAttr, rdA]
      (repeat (first | refine gskip_of ?_ | refine gcskip_of ?_ | refine gopen_of ?_) <;> simp (disch := omega) only [go_sem, simprocAttr])
      refine call_bor [] (by simp (disch := omega) only [go_sem, simprocAttr]) hlb trivial (fun _ => rfl) ?_
      rintro h' v ar ⟨rfl, rfl, rfl⟩
      refine ⟨rfl, rfl, ?_⟩
      simp (disch := omega) only [go_sem, simprocAttr, elb]
      refine call_win [(RD, .var (rdA s a2 hv2 o))] hb3 (by simp (disch := omega) only [go_sem, simprocAttr, rdA]) nofun ?_
      rintro h' v ar ⟨a3, hv3, hr3, hz3, rfl, rfl, rfl⟩
      rw [if_pos (Nat.le_refl _), decide_eq_true (Nat.le_refl _)]
      have etk : (s.drop (o + q + 4)).take (s.length - (o + q + 4)) = (s.drop (o + q + 4)).take n := by
       rw [List.take_of_length_le (by rw [List.length_drop]; omega), List.take_of_length_le (by rw [List.length_drop]; omega)]
      refine ⟨by simp (disch := omega) only [go_sem, simprocAttr, rdA], rfl, ?_⟩
      simp (disch := omega) only [go_sem, simprocAttr, rdA]
      refine hR2 (a3, hv3) _ (by simp only; rw [Nat.min_eq_right (by omega), show 8 * (o + q + 4 + (s.length - (o + q + 4))) = 8 * (o + q + 4) + 8 * (s.length - (o + q + 4)) by omega]; exact hr3) (.le ?_)
      simp (disch := omega) only [go_sem, simprocAttr, stI, rdA, etk]
    ·obtain ⟨a3, hv3⟩ := z
     simp only at hz ⊢
     have hbl : ((s.drop (o + q + 4)).take n).length = min n (s.length - (o + q + 4)) := by rw [List.length_take, List.length_drop]
     generalize hbb : (s.drop (o + q + 4)).take n = b at *
     by_cases hbig : most - S.out.length < b.length
     ·have hbi : (most : Int) - (S.out.length : Int) < (b.length : Int) := by omega
      rw [if_pos (by omega)] at law1
      simp (disch := omega) only [go_sem, simprocAttr, stI, rdA, hbi]
      exact hR.le (h' := stI s o most a3 hv3 S.out) (by simp (disch := omega) only [go_sem, simprocAttr, stI, rdA]) ⟨pi_of ⟨a3, hv3, { S with p := 8 * (q + 4 + min n (s.length - (o + q + 4))), err := 2 }, rfl, by simp only; rw [show 8 * o + 8 * (q + 4 + min n (s.length - (o + q + 4))) = 8 * (o + q + 4 + min n (s.length - (o + q + 4))) by omega]; exact hz, hol, by rw [law1]; rfl, fun h => absurd h (by rw [law1]; decide)⟩, rfl⟩
     ·have hbi : ¬ (most : Int) - (S.out.length : Int) < (b.length : Int) := by omega
      rw [if_neg (by omega)] at law1
      by_cases hfit : n ≤ s.length - (o + q + 4)
      ·rw [decide_eq_true hfit] at hok
       subst hok
       rw [if_neg (by omega)] at law1
       have law2 := law2 law1
       simp (disch := omega) only [go_sem, simprocAttr, stI, rdA, hbi]
       exact hR.le (h' := stI s o most a3 hv3 (S.out ++ b)) (by simp (disch := omega) only [go_sem, simprocAttr, stI, rdA]) ⟨pi_of ⟨a3, hv3, F, by rw [law2], by rw [law2]; simp only; rw [Nat.min_eq_left hfit] at hz; rw [show 8 * o + 8 * (q + 4 + n) = 8 * (o + q + 4 + n) by omega]; exact hz, by rw [law2]; simp only [List.length_append]; omega, by rw [law1]; rfl, fun _ => rfl⟩, rfl⟩
      ·rw [decide_eq_false hfit] at hok
       subst hok
       rw [if_pos (by omega)] at law1
       simp (disch := omega) only [go_sem, simprocAttr, stI, rdA, hbi]
       exact hR.le (h' := stI s o most a3 hv3 (S.out ++ b)) (by simp (disch := omega) only [go_sem, simprocAttr, stI, rdA]) ⟨pi_of ⟨a3, hv3, ⟨8 * (q + 4 + min n (s.length - (o + q + 4))), S.out ++ b, 6⟩, rfl, by simp only; rw [show 8 * o + 8 * (q + 4 + min n (s.length - (o + q + 4))) = 8 * (o + q + 4 + min n (s.length - (o + q + 4))) by omega]; exact hz, by simp only [List.length_append]; omega, by rw [law1]; rfl, fun h => absurd h (by rw [law1]; decide)⟩, rfl⟩
   by_cases hfit : n ≤ s.length - (o + q + 4)
   ·have key := key true _ (by rw [decide_eq_true hfit]) rfl
    rw [if_pos hfit] at key
    rw [if_pos hfit, decide_eq_true hfit]
    refine ⟨by simp (disch := omega) only [go_sem, simprocAttr, rdA], rfl, ?_⟩
    simp only [rdA] at key
    simp (disch := omega) only [go_sem, simprocAttr, rdA]
    exact key
   ·have key := key false _ (by rw [decide_eq_false hfit]) rfl
    rw [if_neg hfit] at key
    rw [if_neg hfit, decide_eq_false hfit]
    refine ⟨by simp (disch := omega) only [go_sem, simprocAttr, rdA], rfl, ?_⟩
    simp only [rdA] at key
    simp (disch := omega) only [go_sem, simprocAttr, rdA]
    exact key
end Go.Proofs.YtjoefngnjoofeaaGreatDoor.Pk
namespace Go.Proofs.YtjoefngnjoofeaaGreatDoor.Pk
open Eng
set_option maxRecDepth 10000
theorem backS_succ (most back n : Nat) (S : SS) : backS most back (n + 1) S = if S.err ≠ 0 then S else backS most back n (putS most (S.out.getD (S.out.length - back) 0) S) := rfl
theorem backS_err (most back : Nat) {S : SS} (h : S.err ≠ 0) : ∀ n, backS most back n S = S
 | 0 => rfl
 | n + 1 => by rw [backS_succ, if_pos h]
theorem lenB_lt : ∀ i, i ≤ 28 → (lenB i).1 ≤ 300 ∧ (lenB i).2 ≤ 8 := by decide +kernel
theorem disB_lt : ∀ i, i ≤ 29 → (disB i).1 ≤ 40000 ∧ (disB i).2 ≤ 15 ∧ 1 ≤ (disB i).1 := by decide +kernel
set_option maxHeartbeats 2000000 in
theorem irepeat_ok (s : Bs) (o most a hv : Nat) (S : SS) (d : List Nat) (sy : Nat) (hs : s.length ≤ 1000000000) (ho : o ≤ s.length) (hm : most ≤ 1000000) (hr : RdOK s a hv (8 * o + S.p)) (hol : S.out.length ≤ most) (he : S.err = 0)
    (hd : ∀ n ∈ d, n ≤ 15) (hdl : d.length ≤ 320) (hdc : chkL d = true) (hsy : 257 ≤ sy) (hsy2 : sy ≤ 400) :
    Eng.Spec Tryz.prog 108 (stI s o most a hv S.out) [.vptr IST 0, .int .i64 sy, tblA d] (fun h' v ar => PI s o most (repS (s.drop o) most d sy S) h' v ∧ ar = [.vptr IST 0, .int .i64 sy, tblA d]) := by
 refine Cod.irepeat_spec (fun E R hN hR => ?_)
 have htl : (s.drop o).length = s.length - o := List.length_drop
 by_cases h285 : 285 < sy
 ·have hF : repS (s.drop o) most d sy S = { S with err := 3 } := by unfold repS; rw [if_pos h285, fail_of he]
  rw [hF] at hR
  simp (disch := omega) only [go_sem, simprocAttr, stI, rdA]
  (repeat (first | refine gskip_of ?_ | refine gcskip_of ?_ | refine gopen_of ?_) <;> simp (disch := omega) only [go_sem, simprocAttr])
  exact hR.le (h' := stI s o most a hv S.out) (by simp (disch := omega) only [go_sem, simprocAttr, stI, rdA]) ⟨pi_of ⟨a, hv, S, rfl, hr, hol, rfl, fun h => absurd h (by simp)⟩, rfl⟩
 ·have elen : (sy : Int) - 257 = ((sy - 257 : Nat) : Int) := by omega
  have hlt := lenB_lt (sy - 257) (by omega)
  have hlenb := ilenb_ok (sy - 257) (by omega)
  have hrep : repS (s.drop o) most d sy S = (let a := numS (s.drop o) (lenB (sy - 257)).2 S
   let k := symS (s.drop o) d a.2
   if k.2.err ≠ 0 then k.2 else if 29 < k.1 then failS 3 k.2 else
   let b := numS (s.drop o) (disB k.1).2 k.2
   let back := (disB k.1).1 + b.1
   if b.2.err ≠ 0 then b.2 else if b.2.out.length < back then failS 3 b.2 else backS most back ((lenB (sy - 257)).1 + a.1) b.2) := by unfold repS; rw [if_neg h285]
  rw [hrep] at hR
  clear hrep
  simp only at hR
  generalize lenB (sy - 257) = lb at *
  simp (disch := omega) only [go_sem, simprocAttr, stI, tblA, elen]
  (repeat (first | refine gskip_of ?_ | refine gcskip_of ?_ | refine gopen_of ?_) <;> simp (disch := omega) only [go_sem, simprocAttr, elen])
  refine call_ro hlenb rfl rfl ?_
  simp (disch := omega) only [go_sem, simprocAttr]
  have hbits := rbits_ok s a hv o (8 * o + S.p) lb.2 (by omega) hr (by omega)
  rw [left_drop, ← num_drop] at hbits
  refine call_win [(RD, .var (rdA s a hv o))] hbits (by simp (disch := omega) only [go_sem, simprocAttr]) nofun ?_
  rintro h' v ar ⟨a1, hv1, hr1, rfl, rfl, rfl⟩
  by_cases hf1 : lb.2 ≤ 8 * (s.drop o).length - S.p
  ·rw [if_pos hf1] at hr1
   rw [if_pos hf1, decide_eq_true hf1]
   have hpl : S.p + lb.2 ≤ 8 * (s.drop o).length := by have := hr.h2; have := hr.h3; omega
   rw [num_ok he hpl] at hR
   simp only at hR
   have hnl := num_lt (s.drop o) S.p lb.2
   have hn256 : 2 ^ lb.2 ≤ 2 ^ 8 := Nat.pow_le_pow_right (by decide) hlt.2
   generalize numAt (s.drop o) S.p lb.2 = x1 at *
   refine ⟨by simp (disch := omega) only [go_sem, simprocAttr, rdA], rfl, ?_⟩
   have hread := hread_ok d hd hdl hdc s a1 hv1 o (8 * o + S.p + lb.2) (by omega) hr1
   rw [Nat.add_assoc, ← rest_drop] at hread
   simp only [tblA] at hread
   generalize hre : readL (codesL d) (restB (s.drop o) (S.p + lb.2)) = re at *
   simp (disch := omega) only [go_sem, simprocAttr]
   refine call_win [(RD, .var (rdA s a1 hv1 o))] hread (by simp (disch := omega) only [go_sem, simprocAttr]) nofun ?_
   rintro h' v ar ⟨a2, hv2, p2, k, hr2, rfl, rfl, hk, rfl⟩
   refine ⟨by simp (disch := omega) only [go_sem, simprocAttr, rdA], rfl, ?_⟩
   by_cases hre2 : re.2.2 = 0
   ·obtain ⟨rfl, rfl⟩ := hk hre2
    have hsym : symS (s.drop o) d { S with p := S.p + lb.2 } = (re.1, { S with p := S.p + lb.2 + re.2.1 }) := by rw [← hre]; exact sym_ok he (by rw [hre]; exact hre2)
    rw [hsym] at hR
    simp only at hR
    rw [if_neg (by simpa using he)] at hR
    have hr2' : RdOK s a2 hv2 (8 * o + (S.p + lb.2 + re.2.1)) := by rw [show 8 * o + (S.p + lb.2 + re.2.1) = 8 * o + (S.p + lb.2) + re.2.1 by omega]; exact hr2
    generalize hp2 : S.p + lb.2 + re.2.1 = p2 at *
    have hklt : re.1 ≤ 400 := by
     have := read_bits (codesL d) (restB (s.drop o) (S.p + lb.2)) (by rw [hre]; exact hre2)
     rw [hre] at this
     have hcl : (codesL d).length = d.length := by simp [codesL]
     omega
    generalize re.1 = k at *
    by_cases h29 : 29 < k
    ·rw [if_pos h29, fail_of (by exact he)] at hR
     simp (disch := omega) only [go_sem, simprocAttr, hre2]
     exact hR.le (h' := stI s o most a2 hv2 S.out) (by simp (disch := omega) only [go_sem, simprocAttr, stI, rdA]) ⟨pi_of ⟨a2, hv2, { S with p := p2 }, rfl, hr2', hol, rfl, fun h => absurd h (by simp)⟩, rfl⟩
    ·rw [if_neg h29] at hR
     have hdt := disB_lt k (by omega)
     have hdb := idisb_ok k (by omega)
     generalize disB k = db at *
     have hbits2 := rbits_ok s a2 hv2 o (8 * o + p2) db.2 (by omega) hr2' (by omega)
     rw [left_drop, ← num_drop] at hbits2
     simp (disch := omega) only [go_sem, simprocAttr, hre2]
     refine call_ro hdb rfl rfl ?_
     simp (disch := omega) only [go_sem, simprocAttr]
     refine call_win [(RD, .var (rdA s a2 hv2 o))] hbits2 (by simp (disch := omega) only [go_sem, simprocAttr]) nofun ?_
     rintro h' v ar ⟨a3, hv3, hr3, rfl, rfl, rfl⟩
     by_cases hf2 : db.2 ≤ 8 * (s.drop o).length - p2
     ·rw [if_pos hf2] at hr3
      rw [if_pos hf2, decide_eq_true hf2]
      have hpl2 : p2 + db.2 ≤ 8 * (s.drop o).length := by have := hr2'.h2; have := hr2'.h3; omega
      rw [num_ok (by exact he) hpl2] at hR
      simp only at hR
      rw [if_neg (by simpa using he)] at hR
      have hn2 := num_lt (s.drop o) p2 db.2
      have hn15 : 2 ^ db.2 ≤ 2 ^ 15 := Nat.pow_le_pow_right (by decide) hdt.2.1
      generalize numAt (s.drop o) p2 db.2 = x2 at *
      refine ⟨by simp (disch := omega) only [go_sem, simprocAttr, rdA], rfl, ?_⟩
      simp (disch := omega) only [go_sem, simprocAttr]
      by_cases hbk : S.out.length < db.1 + x2
      ·have hbi : (S.out.length : Int) < (db.1 : Int) + (x2 : Int) := by omega
       rw [if_pos (by exact hbk), fail_of (by exact he)] at hR
       simp (disch := omega) only [go_sem, simprocAttr, hbi]
       exact hR.le (h' := stI s o most a3 hv3 S.out) (by simp (disch := omega) only [go_sem, simprocAttr, stI, rdA]) ⟨pi_of ⟨a3, hv3, { S with p := p2 + db.2 }, rfl, by show RdOK s a3 hv3 (8 * o + (p2 + db.2)); rw [← Nat.add_assoc]; exact hr3, hol, rfl, fun h => absurd h (by simp)⟩, rfl⟩
      ·have hbi : ¬ (S.out.length : Int) < (db.1 : Int) + (x2 : Int) := by omega
       rw [if_neg (by exact hbk)] at hR
       generalize hbb : db.1 + x2 = back at *
       have hb1 : 1 ≤ back := by omega
       have ebk : (db.1 : Int) + (x2 : Int) = (back : Int) := by omega
       have eln : (lb.1 : Int) + (x1 : Int) = ((lb.1 + x1 : Nat) : Int) := by omega
       have hln : lb.1 + x1 ≤ 1000 := by omega
       rw [ebk, eln]
       generalize lb.1 + x1 = n at *
       rw [ebk] at hbi
       simp (disch := omega) only [go_sem, simprocAttr, hbi]
       refine vcW_loop hN (fun z : Nat × Bs => ⟨[(0, .vptr 65032 0), (13, .int .i64 back), (79, .int .i64 n), (80, .int .i64 z.1), (2000000, .vptr 65032 0), (2000001, .int .i64 sy), (2000002, .elt (.agg (tblC d)))], stI s o most a3 hv3 z.2⟩)
        (fun z => z.1 ≤ n ∧ z.2.length ≤ most ∧ back ≤ z.2.length ∧ backS most back (n - z.1) ⟨p2 + db.2, z.2, S.err⟩ = backS most back n ⟨p2 + db.2, S.out, S.err⟩) (fun z => n - z.1) (0, S.out) (.le (by simp (disch := omega) only [go_sem, simprocAttr, stI, rdA])) ⟨by simp, hol, by simp only; omega, rfl⟩ ?_
       rintro ⟨j, out⟩ R1 ⟨hj, hjo, hjb, hjF⟩ hR1
       simp only at hj hjo hjb hjF
       by_cases hjn : j < n
       ·have ej : n - j = (n - j - 1) + 1 := by omega
        rw [ej, backS_succ, if_neg (by simpa using he)] at hjF
        unfold putS at hjF
        rw [if_neg (by simpa using he)] at hjF
        simp only at hjF
        have eidx : (out.length : Int) - (back : Int) = ((out.length - back : Nat) : Int) := by omega
        generalize hcc : out.getD (out.length - back) 0 = c at *
        have hput := iput_ok s o most a3 hv3 out hm hjo c
        simp (disch := omega) only [go_sem, simprocAttr, stI, rdA]
        rw [hcc]
        refine call_win (stI s o most a3 hv3 out) hput (by simp (disch := omega) only [go_sem, simprocAttr, stI, rdA]) nofun ?_
        rintro h' v ar ⟨rfl, rfl, rfl⟩
        refine ⟨by simp (disch := omega) only [go_sem, simprocAttr, stI, rdA], rfl, ?_⟩
        by_cases hfull : out.length = most
        ·rw [if_pos hfull, if_pos hfull]
         rw [if_pos (by omega), backS_err _ _ (by simp)] at hjF
         rw [← hjF] at hR
         simp (disch := omega) only [go_sem, simprocAttr, stI, rdA]
         exact hR.le (h' := stI s o most a3 hv3 out) (by simp (disch := omega) only [go_sem, simprocAttr, stI, rdA]) ⟨⟨a3, hv3, out, rfl, rfl, fun h => absurd h (by simp)⟩, rfl⟩
        ·rw [if_neg hfull, if_neg hfull]
         rw [if_neg (by omega)] at hjF
         simp (disch := omega) only [go_sem, simprocAttr, stI, rdA]
         exact hR1 (j + 1, out ++ [c]) _ (by simp only; omega) ⟨by simp only; omega, by simp only [List.length_append, List.length_singleton]; omega, by simp only [List.length_append, List.length_singleton]; omega, by simp only; rw [show n - (j + 1) = n - j - 1 by omega]; exact hjF⟩ (.le (by simp (disch := omega) only [go_sem, simprocAttr, stI, rdA]))
       ·obtain rfl : j = n := by omega
        rw [Nat.sub_self] at hjF
        rw [← hjF] at hR
        simp (disch := omega) only [go_sem, simprocAttr, stI, rdA]
        exact hR.le (h' := stI s o most a3 hv3 out) (by simp (disch := omega) only [go_sem, simprocAttr, stI, rdA]) ⟨⟨a3, hv3, out, rfl, by show _ = AV.int .i64 ((S.err : Nat) : Int); rw [he]; rfl, fun _ => ⟨rfl, by show RdOK s a3 hv3 (8 * o + (p2 + db.2)); rw [← Nat.add_assoc]; exact hr3⟩⟩, rfl⟩
     ·rw [if_neg hf2] at hr3
      rw [if_neg hf2, decide_eq_false hf2]
      rw [num_no (by exact he) (by simp only; omega)] at hR
      simp only at hR
      rw [if_pos (by decide)] at hR
      refine ⟨by simp (disch := omega) only [go_sem, simprocAttr, rdA], rfl, ?_⟩
      simp (disch := omega) only [go_sem, simprocAttr]
      exact hR.le (h' := stI s o most a3 hv3 S.out) (by simp (disch := omega) only [go_sem, simprocAttr, stI, rdA]) ⟨pi_of ⟨a3, hv3, { S with p := p2 }, rfl, hr3, hol, rfl, fun h => absurd h (by simp)⟩, rfl⟩
   ·have hsym : symS (s.drop o) d { S with p := S.p + lb.2 } = (0, { S with p := S.p + lb.2, err := re.2.2 }) := by rw [← hre]; exact sym_no he (by rw [hre]; exact hre2)
    rw [hsym] at hR
    simp only at hR
    rw [if_pos hre2] at hR
    have hi : ¬ ((re.2.2 : Nat) : Int) = 0 := by omega
    simp (disch := omega) only [go_sem, simprocAttr, hi]
    exact hR.le (h' := stI s o most a2 hv2 S.out) (by simp (disch := omega) only [go_sem, simprocAttr, stI, rdA]) ⟨⟨a2, hv2, S.out, rfl, rfl, fun h => absurd h hre2⟩, rfl⟩
  ·rw [if_neg hf1] at hr1
   rw [if_neg hf1, decide_eq_false hf1]
   rw [num_no he (by omega)] at hR
   simp only at hR
   rw [sym_err (by simp)] at hR
   simp only at hR
   rw [if_pos (by decide)] at hR
   refine ⟨by simp (disch := omega) only [go_sem, simprocAttr, rdA], rfl, ?_⟩
   simp (disch := omega) only [go_sem, simprocAttr]
   exact hR.le (h' := stI s o most a1 hv1 S.out) (by simp (disch := omega) only [go_sem, simprocAttr, stI, rdA]) ⟨pi_of ⟨a1, hv1, S, rfl, hr1, hol, rfl, fun h => absurd h (by simp)⟩, rfl⟩
end Go.Proofs.YtjoefngnjoofeaaGreatDoor.Pk
namespace Go.Proofs.YtjoefngnjoofeaaGreatDoor.Pk
open Eng
set_option maxRecDepth 10000
set_option maxHeartbeats 2000000 in
theorem ifixed_ok : SpecR Tryz.prog 91 [] (.tup [tblA fixL, tblA fixD]) := by
 refine Cod.ifixed_spec (fun E R hN hR => ?_)
 simp (disch := omega) only [go_sem, simprocAttr]
 refine vcW_loop hN (fun i : Nat => ⟨[(2, .sl 66022 0 i), (3, .nilsl), (9, .int .i64 i)], [(66022, .arr 1 (nats (upTo fixF i)))]⟩) (fun i => i ≤ 288) (fun i => 288 - i) 0 (.nil 2 66022 1 rfl (.le (by simp (disch := omega) only [go_sem, simprocAttr, upTo_zero, nats_nil]))) (by omega) ?_
 rintro i R1 hi hR1
 have hul := upTo_len fixF i
 have hnl := nats_len (upTo fixF i)
 by_cases hlt : i < 288
 ·have hus := upTo_succ fixF i
  have hsb : sub3 (nats (upTo fixF i)) 0 i = nats (upTo fixF i) := by
   have := nats_take (xs := upTo fixF i); rw [hul] at this; exact this
  simp (disch := omega) only [go_sem, simprocAttr]
  refine vcW_cut hN (fun _ : Unit => ⟨[(2, .sl 66022 0 i), (3, .nilsl), (4, .int .i64 i), (9, .int .i64 i), (15, .bool (decide (i < 144 ∨ 280 ≤ i)))], [(66022, .arr 1 (nats (upTo fixF i)))]⟩) (fun _ => True) (fun R2 hR2 => ?_) (fun _ _ => ?_)
  ·by_cases h1 : i < 144
   ·rw [decide_eq_true (.inl h1)] at hR2
    simp (disch := omega) only [go_sem, simprocAttr]
    (repeat (first | refine gskip_of ?_ | refine gcskip_of ?_ | refine gopen_of ?_) <;> simp (disch := omega) only [go_sem, simprocAttr])
    exact hR2 () _ trivial (.le (by simp (disch := omega) only [go_sem, simprocAttr]))
   ·by_cases h2 : 280 ≤ i
    ·rw [decide_eq_true (.inr h2)] at hR2
     simp (disch := omega) only [go_sem, simprocAttr]
     (repeat (first | refine gskip_of ?_ | refine gcskip_of ?_ | refine gopen_of ?_) <;> simp (disch := omega) only [go_sem, simprocAttr])
     exact hR2 () _ trivial (.le (by simp (disch := omega) only [go_sem, simprocAttr]))
    ·rw [decide_eq_false (by omega)] at hR2
     simp (disch := omega) only [go_sem, simprocAttr]
     (repeat (first | refine gskip_of ?_ | refine gcskip_of ?_ | refine gopen_of ?_) <;> simp (disch := omega) only [go_sem, simprocAttr])
     exact hR2 () _ trivial (.le (by simp (disch := omega) only [go_sem, simprocAttr]))
  ·by_cases h8 : i < 144 ∨ 280 ≤ i
   ·have hf : fixF i = 8 := by unfold fixF; rw [if_neg (by omega), if_neg (by omega)]
    rw [hf] at hus
    rw [decide_eq_true h8]
    simp (disch := omega) only [go_sem, simprocAttr, nats_cells, hsb]
    exact hR1 (i + 1) _ (by omega) (by omega) (.le (by rw [hus, ← nats_app]; simp (disch := omega) only [go_sem, simprocAttr]))
   ·rw [decide_eq_false h8]
    by_cases h9 : i < 256
    ·have hf : fixF i = 9 := by unfold fixF; rw [if_neg (by omega), if_pos (by omega)]
     rw [hf] at hus
     simp (disch := omega) only [go_sem, simprocAttr, nats_cells, hsb]
     exact hR1 (i + 1) _ (by omega) (by omega) (.le (by rw [hus, ← nats_app]; simp (disch := omega) only [go_sem, simprocAttr]))
    ·have hf : fixF i = 7 := by unfold fixF; rw [if_pos (by omega)]
     rw [hf] at hus
     simp (disch := omega) only [go_sem, simprocAttr, nats_cells, hsb]
     exact hR1 (i + 1) _ (by omega) (by omega) (.le (by rw [hus, ← nats_app]; simp (disch := omega) only [go_sem, simprocAttr]))
 ·obtain rfl : i = 288 := by omega
  simp (disch := omega) only [go_sem, simprocAttr]
  refine vcW_loop hN (fun i : Nat => ⟨[(2, .sl 66022 0 288), (3, .sl 66034 0 i), (30, .int .i64 i)], [(66022, .arr 1 (nats (upTo fixF 288))), (66034, .arr 1 (nats (upTo (fun _ => 5) i)))]⟩) (fun i => i ≤ 32) (fun i => 32 - i) 0 (.nil 3 66034 1 rfl (.le (by simp (disch := omega) only [go_sem, simprocAttr, upTo_zero, nats_nil]))) (by omega) ?_
  rintro i R2 hi hR2
  have hul2 := upTo_len (fun _ => 5) i
  have hnl2 := nats_len (upTo (fun _ => 5) i)
  by_cases hlt : i < 32
  ·have hus := upTo_succ (fun _ => 5) i
   have hsb : sub3 (nats (upTo (fun _ => 5) i)) 0 i = nats (upTo (fun _ => 5) i) := by
    have := nats_take (xs := upTo (fun _ => 5) i); rw [hul2] at this; exact this
   simp (disch := omega) only [go_sem, simprocAttr, nats_cells, hsb]
   exact hR2 (i + 1) _ (by omega) (by omega) (.le (by rw [hus, ← nats_app]; simp (disch := omega) only [go_sem, simprocAttr]))
  ·obtain rfl : i = 32 := by omega
   rw [fixL_eq] at *
   rw [fixD_eq] at *
   have e1 : sub3 (nats fixL) 0 288 = nats fixL := by rw [← fixL_ok.2.1]; exact nats_take
   have e2 : sub3 (nats fixD) 0 32 = nats fixD := by rw [← fixD_ok.2.1]; exact nats_take
   have n1 := hnew_ok fixL fixL_ok.1 (by rw [fixL_ok.2.1]; decide)
   have n2 := hnew_ok fixD fixD_ok.1 (by rw [fixD_ok.2.1]; decide)
   rw [if_pos fixL_ok.2.2] at n1
   rw [if_pos fixD_ok.2.2] at n2
   generalize fixL = l at *
   generalize fixD = d at *
   simp (disch := omega) only [go_sem, simprocAttr]
   refine call_wk ⟨[(37, .ro 1 (nats l)), (3, .ro 1 (nats d))], []⟩ (.frz 66022 (.frz 66034 (.le (by simp (disch := omega) only [go_sem, simprocAttr, e1, e2])))) rfl ?_
   simp (disch := omega) only [go_sem, simprocAttr]
   refine call_ro' n1 rfl ?_
   rintro h' v as' ⟨rfl, rfl⟩
   refine ⟨rfl, rfl, ?_⟩
   simp (disch := omega) only [go_sem, simprocAttr, tblA]
   refine call_ro' n2 rfl ?_
   rintro h' v as' ⟨rfl, rfl⟩
   refine ⟨rfl, rfl, ?_⟩
   simp (disch := omega) only [go_sem, simprocAttr, tblA]
   exact hR.le (by simp (disch := omega) only [go_sem, simprocAttr]) ⟨rfl, rfl⟩
def ordA : AV := .agg (nats placesL)
theorem iorder_ok : SpecR Tryz.prog 124 [] ordA := by
 refine Cod.iorder_spec (fun E R hN hR => ?_)
 simp (disch := omega) only [go_sem, simprocAttr]
 exact hR.le (by simp (disch := omega) only [go_sem, simprocAttr]) ⟨rfl, rfl⟩
end Go.Proofs.YtjoefngnjoofeaaGreatDoor.Pk
namespace Go.Proofs.YtjoefngnjoofeaaGreatDoor.Pk
section
variable {t : Bs} {S : SS}
theorem out_fail {e : Nat} : (failS e S).out = S.out := by unfold failS; split <;> rfl
theorem out_num {n : Nat} : (numS t n S).2.out = S.out := by
 unfold numS
 split
 ·rfl
 ·split <;> rfl
theorem out_sym {l : List Nat} : (symS t l S).2.out = S.out := by
 unfold symS
 split
 ·rfl
 ·split <;> rfl
theorem out_times {l : List Nat} {s : Nat} : (timesS t l s S).2.2.out = S.out := by
 unfold timesS
 split
 ·split
  ·exact out_fail
  ·exact out_num
 ·split
  ·exact out_num
  ·split
   ·exact out_num
   ·rfl
theorem out_over {N : Nat} {l : List Nat} {b : Nat × Nat × SS} : (overS N l b).out = b.2.2.out := by
 unfold overS
 split
 ·exact out_fail
 ·rfl
end
theorem out_first {t : Bs} {nc : Nat} : ∀ (k : Nat) (l : List Nat) (S : SS), (firstS t nc k l S).2.out = S.out
 | 0, _, _ => rfl
 | k + 1, l, S => by
  rw [firstS_succ]
  split
  ·rfl
  ·rw [out_first k, out_num]
theorem out_lens {t : Bs} {fl : List Nat} {N : Nat} : ∀ (k : Nat) (l : List Nat) (S : SS), (lensS t fl N k l S).2.out = S.out
 | 0, _, _ => rfl
 | k + 1, l, S => by
  rw [lens_succ]
  split
  ·rfl
  ·split
   ·simp only; rw [out_over, out_times, out_sym]
   ·rw [out_lens k, out_over, out_times, out_sym]
theorem dyn_out (t : Bs) (S : SS) : (dynS t S).2.out = S.out := by
 rw [dynS_eq]
 split
 ·rfl
 ·split
  ·rfl
  ·unfold firstF
   split
   ·simp only; rw [out_first]
   ·split
    ·simp only; rw [out_first]
    ·unfold lensF
     split
     ·simp only; rw [out_lens, out_first]
     ·split
      ·simp only; rw [out_lens, out_first]
      ·simp only; rw [out_lens, out_first]
end Go.Proofs.YtjoefngnjoofeaaGreatDoor.Pk
namespace Go.Proofs.YtjoefngnjoofeaaGreatDoor.Pk
open Eng
set_option maxRecDepth 10000
def tblN : AV := .lit (.pointer none)
def PT (s : Bs) (o most : Nat) (out : Bs) (D : (List Nat × List Nat) × SS) (h' : HP) (v : AV) : Prop :=
 ∃ a' hv', h' = stI s o most a' hv' out ∧ (D.2.err ≠ 0 → v = .tup [tblN, tblN, .int .i64 (D.2.err : Nat)]) ∧
  (D.2.err = 0 → v = .tup [tblA D.1.1, tblA D.1.2, .int .i64 (0 : Nat)] ∧ RdOK s a' hv' (8 * o + D.2.p) ∧ chkL D.1.1 = true ∧ chkL D.1.2 = true ∧ (∀ n ∈ D.1.1, n ≤ 15) ∧ (∀ n ∈ D.1.2, n ≤ 15) ∧ D.1.1.length ≤ 286 ∧ D.1.2.length ≤ 320)
abbrev QT (R : HP → AV → List AV → Prop) : KQ := KQ.post [.tmp 2, .tmp 3, .tmp 4] 1 R
abbrev QTb (R1 RX : KS) (R : HP → AV → List AV → Prop) : KQ := KQ.blk 3 (KQ.rnd R1 (KQ.blk 2 (KQ.rnd RX (QT R))))
abbrev PTo (s : Bs) (o most : Nat) (out : Bs) (D : (List Nat × List Nat) × SS) : HP → AV → List AV → Prop := fun h' v ar => PT s o most out D h' v ∧ ar = [.vptr IST 0]
theorem pt_bad {s : Bs} {o most : Nat} {out : Bs} {D : (List Nat × List Nat) × SS} {R : HP → AV → List AV → Prop} (hR : PostTo (PTo s o most out D) R) (e : Nat) (he : D.2.err = e) (hne : e ≠ 0) (a' hv' : Nat) {h : HP} (hh : leH h (stI s o most a' hv' out)) :
    R h (.tup [.lit (.pointer none), .lit (.pointer none), .int .i64 (e : Nat)]) [.vptr 65032 0] :=
 hR.le (h' := stI s o most a' hv' out) hh ⟨⟨a', hv', rfl, fun _ => by rw [he]; rfl, fun h => absurd h (by rw [he]; exact hne)⟩, rfl⟩
theorem rbits_d (s : Bs) (o p a hv n : Nat) (hs : s.length ≤ 1000000000) (h : RdOK s a hv (8 * o + p)) (hn : n ≤ 32) : Eng.Spec Tryz.prog 103 [(RD, .var (rdA s a hv o))] [.vptr RD 0, .int .i64 n]
    (fun h' v ar => ∃ a' hv', RdOK s a' hv' (8 * o + (if n ≤ 8 * (s.drop o).length - p then p + n else p)) ∧ h' = [(RD, .var (rdA s a' hv' o))] ∧ v = .tup [.int .u32 (if n ≤ 8 * (s.drop o).length - p then numAt (s.drop o) p n else 0 : Nat), .bool (decide (n ≤ 8 * (s.drop o).length - p))] ∧ ar = [.vptr RD 0, .int .i64 n]) := by
 have hb := rbits_ok s a hv o (8 * o + p) n (by omega) h hn
 rw [left_drop, ← num_drop] at hb
 rw [show 8 * o + (if n ≤ 8 * (s.drop o).length - p then p + n else p) = (if n ≤ 8 * (s.drop o).length - p then 8 * o + p + n else 8 * o + p) by split <;> omega]
 exact hb
theorem hnew_two (l : List Nat) (hl : ∀ n ∈ l, n ≤ 15) (hn : l.length ≤ 320) : ∃ (x : AV) (e : Nat), Eng.Spec Tryz.prog 115 [] [.ro 1 (nats l)] (fun h r _ => h = [] ∧ r = .tup [x, .int .i64 (e : Nat)]) ∧ ((chkL l = true ∧ x = tblA l ∧ e = 0) ∨ (chkL l = false ∧ x = .lit (.pointer none) ∧ e = 4)) := by
 have n1 := hnew_ok l hl hn
 by_cases hc : chkL l = true
 ·rw [if_pos hc] at n1
  exact ⟨_, 0, n1, .inl ⟨hc, rfl, rfl⟩⟩
 ·rw [if_neg hc] at n1
  exact ⟨_, 4, n1, .inr ⟨by simpa using hc, rfl, rfl⟩⟩
set_option maxHeartbeats 2000000 in
theorem it_d (s : Bs) (o most a hv : Nat) (out : Bs) (l : List Nat) (nl p : Nat) (D : (List Nat × List Nat) × SS) {E : Env} {R : HP → AV → List AV → Prop} (hN : E.N ≤ 1000000) (hR : PostTo (PTo s o most out D) R) (hl : ∀ n ∈ l, n ≤ 15) (h1 : 257 ≤ nl) (h2 : nl ≤ 286) (h3 : l.length ≤ 320) (h4 : nl ≤ l.length)
    (hr : RdOK s a hv (8 * o + p))
    (hD : D = if l.getD 256 0 = 0 ∨ chkL (l.take nl) = false ∨ chkL (l.drop nl) = false then (([], []), ⟨p, out, 3⟩) else ((l.take nl, l.drop nl), ⟨p, out, 0⟩)) :
    vcW Tryz.prog E Cod.itables_11 (QT R) ⟨[(0, .vptr 65032 0), (7, .int .i64 nl), (16, .ro 1 (nats l)), (2000000, .vptr 65032 0)], stI s o most a hv out⟩ := by
 have hnl := nats_len l
 have ht1 : (l.take nl).length = nl := by rw [List.length_take]; omega
 have hd1 : (l.drop nl).length = l.length - nl := List.length_drop
 obtain ⟨x1, e1, n1, c1⟩ := hnew_two (l.take nl) (take15 hl nl) (by omega)
 obtain ⟨x2, e2, n2, c2⟩ := hnew_two (l.drop nl) (drop15 hl nl) (by omega)
 have hx : nth (nats l) 256 = .int .i64 (l.getD 256 0 : Nat) := nth_nats (by omega)
 have etd : (l.drop nl).take (l.length - nl) = l.drop nl := List.take_of_length_le (by omega)
 generalize hy : l.getD 256 0 = y at *
 have bad : D = (([], []), ⟨p, out, 3⟩) → ∀ h, leH h (stI s o most a hv out) → R h (.tup [.lit (.pointer none), .lit (.pointer none), .int .i64 3]) [.vptr 65032 0] := fun hd h hh => pt_bad hR 3 (by rw [hd]) (by decide) a hv hh
 simp (disch := omega) only [go_sem, simprocAttr, stI, hnl, nats_sub]
 rcases c1 with ⟨hc1, rfl, rfl⟩ | ⟨hc1, rfl, rfl⟩ <;> rcases c2 with ⟨hc2, rfl, rfl⟩ | ⟨hc2, rfl, rfl⟩ <;> by_cases h0 : y = 0
 all_goals
  refine call_ro' n1 rfl ?_
  rintro h' v as' ⟨rfl, rfl⟩
  refine ⟨rfl, rfl, ?_⟩
  simp (disch := omega) only [go_sem, simprocAttr, hnl, nats_sub, etd, tblA]
  refine call_ro' n2 rfl ?_
  rintro h' v as' ⟨rfl, rfl⟩
  refine ⟨rfl, rfl, ?_⟩
 rotate_left
 ·rw [if_neg (by rw [hc1, hc2]; simp [h0])] at hD
  subst hD
  have hi : ¬ ((y : Nat) : Int) = 0 := by omega
  simp (disch := omega) only [go_sem, simprocAttr, hnl, hx, hi, tblA]
  (repeat (first | refine gskip_of ?_ | refine gcskip_of ?_ | refine gopen_of ?_) <;> simp (disch := omega) only [go_sem, simprocAttr, hnl, hx, hi])
  exact hR.le (h' := stI s o most a hv out) (by simp (disch := omega) only [go_sem, simprocAttr, stI, rdA]) ⟨⟨a, hv, rfl, fun h => absurd rfl h, fun _ => ⟨rfl, hr, hc1, hc2, take15 hl nl, drop15 hl nl, by rw [ht1]; exact h2, by rw [hd1]; omega⟩⟩, rfl⟩
 all_goals
  rw [if_pos (by first | exact .inl h0 | exact .inr (.inl hc1) | exact .inr (.inr hc2))] at hD
  have bad := bad hD
 all_goals first
  |have hi : ((y : Nat) : Int) = 0 := by omega
   simp (disch := omega) only [go_sem, simprocAttr, hnl, hx, hi, tblA]
   (try (repeat (first | refine gskip_of ?_ | refine gcskip_of ?_ | refine gopen_of ?_) <;> simp (disch := omega) only [go_sem, simprocAttr, hnl, hx, hi]))
   exact bad _ (by simp (disch := omega) only [go_sem, simprocAttr, stI, rdA])
  |have hi : ¬ ((y : Nat) : Int) = 0 := by omega
   simp (disch := omega) only [go_sem, simprocAttr, hnl, hx, hi, tblA]
   (try (repeat (first | refine gskip_of ?_ | refine gcskip_of ?_ | refine gopen_of ?_) <;> simp (disch := omega) only [go_sem, simprocAttr, hnl, hx, hi]))
   exact bad _ (by simp (disch := omega) only [go_sem, simprocAttr, stI, rdA])
end Go.Proofs.YtjoefngnjoofeaaGreatDoor.Pk
namespace Go.Proofs.YtjoefngnjoofeaaGreatDoor.Pk
open Eng
set_option maxRecDepth 10000
set_option maxHeartbeats 1000000 in
theorem it_cp (s : Bs) (o most a hv N : Nat) (out : Bs) (l fl : List Nat) (nl nd p nb least what : Nat) (D : (List Nat × List Nat) × SS) {E : Env} {R1 RX : KS} {R : HP → AV → List AV → Prop} (hN : E.N ≤ 1000000) (hs : s.length ≤ 1000000000) (ho : o ≤ s.length)
    (hR : PostTo (PTo s o most out D) R) (hr : RdOK s a hv (8 * o + p)) (hbits : nb ≤ 7) (hleast : least ≤ 11) (hNN : nl + nd = N) (hN1 : N ≤ 400) (hll : l.length ≤ N)
    (hbad : (overS N l (least + (numS (s.drop o) nb ⟨p, out, 0⟩).1, what, (numS (s.drop o) nb ⟨p, out, 0⟩).2)).err ≠ 0 → D.2.err = (overS N l (least + (numS (s.drop o) nb ⟨p, out, 0⟩).1, what, (numS (s.drop o) nb ⟨p, out, 0⟩).2)).err)
    (hR1 : ∀ n a' hv' st', n = numAt (s.drop o) p nb → p + nb ≤ 8 * (s.drop o).length → l.length + (least + n) ≤ N → RdOK s a' hv' (8 * o + (p + nb)) →
     Wk st' ⟨[(0, .vptr 65032 0), (7, .int .i64 nl), (8, .int .i64 nd), (14, tblA fl), (16, .sl 62110 0 (l ++ List.replicate (least + n) what).length), (2000000, .vptr 65032 0)], stI s o most a' hv' out ++ [(62110, .arr 1 (nats (l ++ List.replicate (least + n) what)))]⟩ → R1.ap st') :
    vcW Tryz.prog E Cod.itables_26 (QTb R1 RX R) ⟨[(0, .vptr 65032 0), (7, .int .i64 nl), (8, .int .i64 nd), (14, tblA fl), (16, .sl 62110 0 l.length), (19, .int .i64 nb), (20, .int .i64 least), (21, .int .i64 what), (2000000, .vptr 65032 0)], stI s o most a hv out ++ [(62110, .arr 1 (nats l))]⟩ := by
 have htl : (s.drop o).length = s.length - o := List.length_drop
 have hnl := nats_len l
 have hb := rbits_d s o p a hv nb hs hr (by omega)
 simp (disch := omega) only [go_sem, simprocAttr, stI]
 refine call_win [(RD, .var (rdA s a hv o))] hb (by simp (disch := omega) only [go_sem, simprocAttr]) nofun ?_
 rintro h' v ar ⟨a1, hv1, hr1, rfl, rfl, rfl⟩
 by_cases hf : nb ≤ 8 * (s.drop o).length - p
 ·rw [if_pos hf] at hr1
  rw [if_pos hf, decide_eq_true hf]
  have hpl : p + nb ≤ 8 * (s.drop o).length := by have := hr.h2; have := hr.h3; omega
  rw [num_ok rfl hpl] at hbad
  simp only at hbad
  have hlt := num_lt (s.drop o) p nb
  have hp7 : 2 ^ nb ≤ 2 ^ 7 := Nat.pow_le_pow_right (by decide) hbits
  have hR1 := fun st' => hR1 _ a1 hv1 st' rfl hpl
  generalize numAt (s.drop o) p nb = n at *
  refine ⟨by simp (disch := omega) only [go_sem, simprocAttr, rdA], rfl, ?_⟩
  by_cases hov : N < l.length + (least + n)
  ·have ho2 : ((nl : Int) + (nd : Int)) < (l.length : Int) + (least : Int) + (n : Int) := by omega
   have hbad := hbad (by unfold overS; rw [if_pos hov, fail_of rfl]; simp)
   unfold overS at hbad
   rw [if_pos hov, fail_of rfl] at hbad
   simp (disch := omega) only [go_sem, simprocAttr, hnl, ho2]
   exact pt_bad hR 3 hbad (by decide) a1 hv1 (by simp (disch := omega) only [go_sem, simprocAttr, stI, rdA])
  ·have ho2 : ¬ ((nl : Int) + (nd : Int)) < (l.length : Int) + (least : Int) + (n : Int) := by omega
   have eln : (least : Int) + (n : Int) = ((least + n : Nat) : Int) := by omega
   clear hbad
   simp (disch := omega) only [go_sem, simprocAttr, hnl, ho2]
   generalize hk : least + n = k at *
   rw [eln]
   refine vcW_loop hN (fun j : Nat => ⟨[(0, .vptr 65032 0), (7, .int .i64 nl), (8, .int .i64 nd), (14, tblA fl), (16, .sl 62110 0 (l.length + j : Nat)), (21, .int .i64 what), (150, .int .i64 k), (151, .int .i64 j), (2000000, .vptr 65032 0)], stI s o most a1 hv1 out ++ [(62110, .arr 1 (nats (l ++ List.replicate j what)))]⟩) (fun j => j ≤ k) (fun j => k - j) 0
    (.le (by simp (disch := omega) only [go_sem, simprocAttr, stI, rdA, tblA]; simp)) (by omega) ?_
   rintro j R2 hj hR2
   have hnl := nats_len (l ++ List.replicate j what)
   have hlr : (l ++ List.replicate j what).length = l.length + j := by simp
   have hnr := nats_rep l j what
   have hsb : sub3 (nats (l ++ List.replicate j what)) 0 (l.length + j) = nats (l ++ List.replicate j what) := by rw [← hlr]; exact nats_take
   by_cases hjk : j < k
   ·simp (disch := omega) only [go_sem, simprocAttr, stI, hsb, nats_cells]
    exact hR2 (j + 1) _ (by omega) (by omega) (.le (by simp (disch := omega) only [go_sem, simprocAttr, stI, rdA, tblA, hnr]))
   ·obtain rfl : j = k := by omega
    simp (disch := omega) only [go_sem, simprocAttr, stI]
    exact hR1 _ (by omega) hr1 (.le (by simp (disch := omega) only [go_sem, simprocAttr, stI, rdA, tblA, hlr]))
 ·rw [if_neg hf] at hr1
  rw [if_neg hf, decide_eq_false hf]
  rw [num_no rfl (by simp only; omega)] at hbad
  have hover : ∀ k, (overS N l (k, what, { p := p, out := out, err := 6 })).err = 6 := by
   intro k
   unfold overS
   split
   ·rfl
   ·rfl
  simp only at hbad
  rw [hover] at hbad
  refine ⟨by simp (disch := omega) only [go_sem, simprocAttr, rdA], rfl, ?_⟩
  simp (disch := omega) only [go_sem, simprocAttr]
  exact pt_bad hR 6 (hbad (by decide)) (by decide) a1 hv1 (by simp (disch := omega) only [go_sem, simprocAttr, stI, rdA])
set_option maxHeartbeats 2000000 in
theorem it_b (s : Bs) (o most a hv : Nat) (out : Bs) (fl : List Nat) (nl nd p : Nat) (D : (List Nat × List Nat) × SS) {E : Env} {R : HP → AV → List AV → Prop} (hN : E.N ≤ 1000000) (hs : s.length ≤ 1000000000) (ho : o ≤ s.length)
    (hR : PostTo (PTo s o most out D) R) (hr : RdOK s a hv (8 * o + p)) (hfl : ∀ n ∈ fl, n ≤ 15) (hfn : fl.length = 19) (hfc : chkL fl = true) (h1 : 257 ≤ nl) (h2 : nl ≤ 286) (h3 : 1 ≤ nd) (h4 : nd ≤ 30)
    (hD : D = lensF (s.drop o) nl nd (lensS (s.drop o) fl (nl + nd) (nl + nd) [] ⟨p, out, 0⟩)) :
    vcW Tryz.prog E Cod.itables_10 (QT R) ⟨[(0, .vptr 65032 0), (7, .int .i64 nl), (8, .int .i64 nd), (14, tblA fl), (16, .nilsl), (2000000, .vptr 65032 0)], stI s o most a hv out⟩ := by
 generalize hG : lensS (s.drop o) fl (nl + nd) (nl + nd) [] ⟨p, out, 0⟩ = G at hD
 have hN1 : nl + nd ≤ 400 := by omega
 generalize hNN : nl + nd = N at *
 have hbadG : G.2.err ≠ 0 → D.2.err = G.2.err := by
  intro h
  rw [hD]
  unfold lensF
  rw [if_pos h]
 refine vcW_cut (y := Cod.itables_11) hN (fun z : Nat × Nat => ⟨[(0, .vptr 65032 0), (7, .int .i64 nl), (16, .ro 1 (nats G.1)), (2000000, .vptr 65032 0)], stI s o most z.1 z.2 out⟩)
  (fun z => RdOK s z.1 z.2 (8 * o + G.2.p) ∧ G.2 = ⟨G.2.p, out, 0⟩ ∧ (∀ n ∈ G.1, n ≤ 15) ∧ G.1.length = N) (fun RX hRX => ?_) (fun z hz => ?_)
 ·simp (disch := omega) only [go_sem, simprocAttr]
  refine vcW_loop hN (fun q : List Nat × Nat × Nat × Nat => ⟨[(0, .vptr 65032 0), (7, .int .i64 nl), (8, .int .i64 nd), (14, tblA fl), (16, .sl 62110 0 q.1.length), (2000000, .vptr 65032 0)], stI s o most q.2.1 q.2.2.1 out ++ [(62110, .arr 1 (nats q.1))]⟩)
   (fun q => (∀ n ∈ q.1, n ≤ 15) ∧ q.1.length ≤ N ∧ RdOK s q.2.1 q.2.2.1 (8 * o + q.2.2.2) ∧ ∃ k, N - q.1.length ≤ k ∧ lensS (s.drop o) fl N k q.1 ⟨q.2.2.2, out, 0⟩ = G) (fun q => N - q.1.length) ([], a, hv, p)
   (.nil 16 62110 1 rfl (.le (by simp (disch := omega) only [go_sem, simprocAttr, stI, rdA, tblA, nats_nil]))) ⟨by simp, by simp, hr, N, by simp, hG⟩ ?_
  clear hr hG
  rintro ⟨l, a, hv, p⟩ R1 ⟨hl, hll, hr, k, hk, hg⟩ hR1
  simp only at hl hll hr hk hg
  have hnl := nats_len l
  have htl : (s.drop o).length = s.length - o := List.length_drop
  by_cases hlt : l.length < N
  ·have hlt2 : (l.length : Int) < (nl : Int) + (nd : Int) := by omega
   obtain ⟨k, rfl⟩ : ∃ k', k = k' + 1 := ⟨k - 1, by omega⟩
   rw [lens_succ, if_neg (by simp only; omega)] at hg
   have hread := hread_ok fl hfl (by omega) hfc s a hv o (8 * o + p) (by omega) hr
   rw [← rest_drop] at hread
   simp only [tblA] at hread
   generalize hre : readL (codesL fl) (restB (s.drop o) p) = re at *
   simp (disch := omega) only [go_sem, simprocAttr, stI, tblA, hnl, hlt2]
   refine call_win [(RD, .var (rdA s a hv o))] hread (by simp (disch := omega) only [go_sem, simprocAttr]) nofun ?_
   rintro h' v ar ⟨a2, hv2, p2, sy, hr2, rfl, rfl, hk2, rfl⟩
   refine ⟨by simp (disch := omega) only [go_sem, simprocAttr, rdA], rfl, ?_⟩
   by_cases hre2 : re.2.2 = 0
   ·obtain ⟨rfl, rfl⟩ := hk2 hre2
    have hsym : symS (s.drop o) fl ⟨p, out, 0⟩ = (re.1, ⟨p + re.2.1, out, 0⟩) := by
     have := sym_ok (t := s.drop o) (l := fl) (S := ⟨p, out, 0⟩) rfl (by simp only; rw [hre]; exact hre2)
     simp only [hre] at this
     exact this
    rw [hsym] at hg
    simp only at hg
    have hslt : re.1 < 19 := by
     have := read_bits (codesL fl) (restB (s.drop o) p) (by rw [hre]; exact hre2)
     rw [hre] at this
     have hcl : (codesL fl).length = fl.length := by simp [codesL]
     omega
    rw [show 8 * o + p + re.2.1 = 8 * o + (p + re.2.1) by omega] at hr2
    generalize p + re.2.1 = p2 at *
    generalize re.1 = sy at *
    by_cases h16 : sy < 16
    ·have ht : timesS (s.drop o) l sy ⟨p2, out, 0⟩ = (1, sy, ⟨p2, out, 0⟩) := by unfold timesS; rw [if_neg (by omega), if_neg (by omega), if_neg (by omega)]
     have hov : overS N l (1, sy, ⟨p2, out, 0⟩) = ⟨p2, out, 0⟩ := by unfold overS; rw [if_neg (by simp only; omega)]
     rw [ht, hov, if_neg (by simp)] at hg
     simp only at hg
     have hsb : sub3 (nats l) 0 l.length = nats l := nats_take
     simp (disch := omega) only [go_sem, simprocAttr, hre2, hnl, hsb, nats_cells]
     refine hR1 (l ++ [sy], a2, hv2, p2) _ (by simp only [List.length_append, List.length_singleton]; omega) ⟨?_, ?_, hr2, k, ?_, hg⟩ (.le (by rw [nats_app]; simp (disch := omega) only [go_sem, simprocAttr, stI, rdA, tblA, List.length_append, List.length_singleton]))
     ·intro n hn
      rcases List.mem_append.1 hn with hn | hn
      ·exact hl n hn
      ·rw [List.mem_singleton.1 hn]; omega
     ·simp only [List.length_append, List.length_singleton]; omega
     ·simp only [List.length_append, List.length_singleton]; omega
    ·simp (disch := omega) only [go_sem, simprocAttr, hre2]
     refine vcW_cut (y := Cod.itables_26) hN (fun z : Nat × Nat × Nat => ⟨[(0, .vptr 65032 0), (7, .int .i64 nl), (8, .int .i64 nd), (14, tblA fl), (16, .sl 62110 0 l.length), (19, .int .i64 z.1), (20, .int .i64 z.2.1), (21, .int .i64 z.2.2), (2000000, .vptr 65032 0)], stI s o most a2 hv2 out ++ [(62110, .arr 1 (nats l))]⟩)
      (fun z => z.1 ≤ 7 ∧ 1 ≤ z.2.1 ∧ z.2.1 ≤ 11 ∧ z.2.2 ≤ 15 ∧ timesS (s.drop o) l sy ⟨p2, out, 0⟩ = (z.2.1 + (numS (s.drop o) z.1 ⟨p2, out, 0⟩).1, z.2.2, (numS (s.drop o) z.1 ⟨p2, out, 0⟩).2)) (fun R2 hR2 => ?_) (fun z hz => ?_)
     ·by_cases e16 : sy = 16
      ·subst e16
       by_cases hle : l = []
       ·subst hle
        have ht : timesS (s.drop o) [] 16 ⟨p2, out, 0⟩ = (0, 0, ⟨p2, out, 3⟩) := by unfold timesS; rw [if_pos rfl, if_pos rfl, fail_of rfl]
        have hov : overS N [] (0, 0, ⟨p2, out, 3⟩) = ⟨p2, out, 3⟩ := if_neg (by simp)
        rw [ht, hov, if_pos (by simp)] at hg
        simp (disch := omega) only [go_sem, simprocAttr, nats_nil]
        exact pt_bad hR 3 (by rw [hbadG (by rw [← hg]; simp), ← hg]) (by decide) a2 hv2 (by simp (disch := omega) only [go_sem, simprocAttr, stI, rdA])
       ·have hl0 : 0 < l.length := by cases l with | nil => exact absurd rfl hle | cons => simp
        have el : (l.length : Int) - 1 = ((l.length - 1 : Nat) : Int) := by omega
        have hz : ¬ ((l.length : Int) = 0) := by omega
        have hx : nth (nats l) (l.length - 1) = .int .i64 (l.getD (l.length - 1) 0 : Nat) := nth_nats (by omega)
        have hx15 : l.getD (l.length - 1) 0 ≤ 15 := len15 hl _
        have ht : timesS (s.drop o) l 16 ⟨p2, out, 0⟩ = (3 + (numS (s.drop o) 2 ⟨p2, out, 0⟩).1, l.getD (l.length - 1) 0, (numS (s.drop o) 2 ⟨p2, out, 0⟩).2) := by unfold timesS; rw [if_pos rfl, if_neg hle]
        generalize l.getD (l.length - 1) 0 = x at *
        simp (disch := omega) only [go_sem, simprocAttr, hnl, hz, el, hx]
        exact hR2 (2, 3, x) _ ⟨by simp, by simp, by simp, hx15, ht⟩ (.le (by simp (disch := omega) only [go_sem, simprocAttr, stI, rdA, tblA]))
      ·by_cases e17 : sy = 17
       ·subst e17
        simp (disch := omega) only [go_sem, simprocAttr]
        exact hR2 (3, 3, 0) _ ⟨by decide, by decide, by decide, by decide, rfl⟩ (.le (by simp (disch := omega) only [go_sem, simprocAttr, stI, rdA, tblA]))
       ·obtain rfl : sy = 18 := by omega
        simp (disch := omega) only [go_sem, simprocAttr]
        exact hR2 (7, 11, 0) _ ⟨by decide, by decide, by decide, by decide, rfl⟩ (.le (by simp (disch := omega) only [go_sem, simprocAttr, stI, rdA, tblA]))
     ·obtain ⟨nb, least, what⟩ := z
      simp only at hz ⊢
      obtain ⟨g1, g0, g2, g3, g4⟩ := hz
      rw [g4] at hg
      refine it_cp s o most a2 hv2 N out l fl nl nd p2 nb least what D hN hs ho hR hr2 g1 g2 hNN hN1 hll (fun h => ?_) (fun n a' hv' st' hn hpl hlo hr3 hw => ?_)
      ·rw [if_pos h] at hg
       rw [hbadG (by rw [← hg]; exact h), ← hg]
      ·rw [num_ok rfl hpl] at hg
       simp only at hg
       rw [← hn] at hg
       have hov : overS N l (least + n, what, ⟨p2 + nb, out, 0⟩) = ⟨p2 + nb, out, 0⟩ := by unfold overS; rw [if_neg (by simp only; omega)]
       rw [hov, if_neg (by simp)] at hg
       refine hR1 (l ++ List.replicate (least + n) what, a', hv', p2 + nb) _ (by simp only [List.length_append, List.length_replicate]; omega) ⟨?_, ?_, hr3, k, ?_, hg⟩ hw
       ·intro n hn
        rcases List.mem_append.1 hn with hn | hn
        ·exact hl n hn
        ·rw [(List.mem_replicate.1 hn).2]; exact g3
       ·simp only [List.length_append, List.length_replicate]; omega
       ·simp only [List.length_append, List.length_replicate]; omega
   ·have hsym : symS (s.drop o) fl ⟨p, out, 0⟩ = (0, ⟨p, out, re.2.2⟩) := by
     have := sym_no (t := s.drop o) (l := fl) (S := ⟨p, out, 0⟩) rfl (by simp only; rw [hre]; exact hre2)
     simp only [hre] at this
     exact this
    rw [hsym] at hg
    simp only at hg
    have ht : timesS (s.drop o) l 0 ⟨p, out, re.2.2⟩ = (1, 0, ⟨p, out, re.2.2⟩) := by unfold timesS; rw [if_neg (by omega), if_neg (by omega), if_neg (by omega)]
    have hov : overS N l (1, 0, ⟨p, out, re.2.2⟩) = ⟨p, out, re.2.2⟩ := by unfold overS; rw [if_neg (by simp only; omega)]
    rw [ht, hov, if_pos (by simpa using hre2)] at hg
    have hi : ¬ ((re.2.2 : Nat) : Int) = 0 := by omega
    simp (disch := omega) only [go_sem, simprocAttr, hi]
    exact pt_bad hR re.2.2 (by rw [hbadG (by rw [← hg]; exact hre2), ← hg]) hre2 a2 hv2 (by simp (disch := omega) only [go_sem, simprocAttr, stI, rdA])
  ·have hlt2 : ¬ (l.length : Int) < (nl : Int) + (nd : Int) := by omega
   have hGe : (l, (⟨p, out, 0⟩ : SS)) = G := by
    rw [← hg]
    cases k with
    | zero => rfl
    | succ k => rw [lens_succ, if_pos (.inl (by omega))]
   subst hGe
   have hsb : sub3 (nats l) 0 l.length = nats l := nats_take
   simp (disch := omega) only [go_sem, simprocAttr, stI, hnl, hlt2]
   exact hRX (a, hv) _ ⟨hr, rfl, hl, by simp only; omega⟩ (.frz 62110 (.le (by simp (disch := omega) only [go_sem, simprocAttr, stI, rdA, tblA, hsb])))
 ·obtain ⟨a', hv'⟩ := z
  obtain ⟨g1, g2, g3, g4⟩ := hz
  refine it_d s o most a' hv' out G.1 nl G.2.p D hN hR g3 h1 h2 (by omega) (by omega) g1 ?_
  rw [hD]
  unfold lensF
  rw [if_neg (by rw [g2]; simp)]
  obtain ⟨G1, G2⟩ := G
  simp only at g2
  rw [g2]
end Go.Proofs.YtjoefngnjoofeaaGreatDoor.Pk
namespace Go.Proofs.YtjoefngnjoofeaaGreatDoor.Pk
open Eng
set_option maxRecDepth 10000
set_option maxHeartbeats 2000000 in
theorem it_f (s : Bs) (o most a hv : Nat) (out : Bs) (nl nd nc p : Nat) (D : (List Nat × List Nat) × SS) {E : Env} {R : HP → AV → List AV → Prop} (hN : E.N ≤ 1000000) (hs : s.length ≤ 1000000000) (ho : o ≤ s.length)
    (hR : PostTo (PTo s o most out D) R) (hr : RdOK s a hv (8 * o + p)) (h1 : 257 ≤ nl) (h2 : nl ≤ 286) (h3 : 1 ≤ nd) (h4 : nd ≤ 30) (hc : nc ≤ 19)
    (hD : D = firstF (s.drop o) nl nd (firstS (s.drop o) nc nc (List.replicate 19 0) ⟨p, out, 0⟩)) :
    vcW Tryz.prog E Cod.itables_6 (QT R) ⟨[(0, .vptr 65032 0), (7, .int .i64 nl), (8, .int .i64 nd), (9, .int .i64 nc), (10, .sl 62057 0 19), (2000000, .vptr 65032 0)], [(62057, .arr 1 (nats (List.replicate 19 0))), (40014, .var (rdA s a hv o)), (65032, .var [.vptr 40014 0, .sl 60022 0 out.length, .int .i64 most]), (60022, .arr 1 (out.map ub))]⟩ := by
 generalize hG : firstS (s.drop o) nc nc (List.replicate 19 0) ⟨p, out, 0⟩ = G at hD
 have htl : (s.drop o).length = s.length - o := List.length_drop
 have hbadG : G.2.err ≠ 0 → D.2.err = G.2.err := by
  intro h
  rw [hD]
  unfold firstF
  rw [if_pos h]
 refine vcW_cut (y := Cod.itables_7) hN (fun z : Nat × Nat => ⟨[(0, .vptr 65032 0), (7, .int .i64 nl), (8, .int .i64 nd), (10, .ro 1 (nats G.1)), (2000000, .vptr 65032 0)], stI s o most z.1 z.2 out⟩)
  (fun z => RdOK s z.1 z.2 (8 * o + G.2.p) ∧ G.2 = ⟨G.2.p, out, 0⟩ ∧ (∀ n ∈ G.1, n ≤ 15) ∧ G.1.length = 19) (fun RX hRX => ?_) (fun z hz => ?_)
 ·simp (disch := omega) only [go_sem, simprocAttr, stI]
  refine vcW_loop hN (fun q : Nat × List Nat × Nat × Nat × Nat => ⟨[(0, .vptr 65032 0), (7, .int .i64 nl), (8, .int .i64 nd), (10, .sl 62057 0 19), (58, .int .i64 nc), (59, .int .i64 q.1), (2000000, .vptr 65032 0)], stI s o most q.2.2.1 q.2.2.2.1 out ++ [(62057, .arr 1 (nats q.2.1))]⟩)
   (fun q => q.1 ≤ nc ∧ (∀ n ∈ q.2.1, n ≤ 15) ∧ q.2.1.length = 19 ∧ RdOK s q.2.2.1 q.2.2.2.1 (8 * o + q.2.2.2.2) ∧ firstS (s.drop o) nc (nc - q.1) q.2.1 ⟨q.2.2.2.2, out, 0⟩ = G) (fun q => nc - q.1) (0, List.replicate 19 0, a, hv, p)
   (.le (by simp (disch := omega) only [go_sem, simprocAttr, stI])) ⟨by simp, by simp, by simp, hr, hG⟩ ?_
  clear hr hG
  rintro ⟨j, l, a, hv, p⟩ R1 ⟨hj, hl, hll, hr, hg⟩ hR1
  simp only at hj hl hll hr hg
  have hnl := nats_len l
  by_cases hlt : j < nc
  ·obtain ⟨m, hm⟩ : ∃ m, nc - j = m + 1 := ⟨nc - j - 1, by omega⟩
   rw [hm, firstS_succ, if_neg (by simp), show nc - (m + 1) = j by omega] at hg
   have hpl := places_lt j (by omega)
   have hx : nth (nats placesL) j = .int .i64 (placesL.getD j 0 : Nat) := nth_nats (by have : placesL.length = 19 := rfl; omega)
   have hpn : (nats placesL).length = 19 := rfl
   have hx2 : (nats placesL).getD j .undef = .int .i64 (placesL.getD j 0 : Nat) := by
    have hl : j < placesL.length := by have : placesL.length = 19 := rfl; omega
    simp [nats, List.getD_eq_getElem?_getD, hl]
   have hord := iorder_ok
   unfold ordA at hord
   generalize placesL.getD j 0 = pj at *
   have hb := rbits_d s o p a hv 3 hs hr (by omega)
   have hxl : nth (nats l) pj = .int .i64 (l.getD pj 0 : Nat) := nth_nats (by omega)
   simp (disch := omega) only [go_sem, simprocAttr, stI]
   refine call_win [(RD, .var (rdA s a hv o))] hb (by simp (disch := omega) only [go_sem, simprocAttr]) nofun ?_
   rintro h' v ar ⟨a1, hv1, hr1, rfl, rfl, rfl⟩
   by_cases hf : 3 ≤ 8 * (s.drop o).length - p
   ·rw [if_pos hf] at hr1
    rw [if_pos hf, decide_eq_true hf]
    rw [num_ok rfl (by simp only; omega)] at hg
    simp only at hg
    have hlt3 := num_lt (s.drop o) p 3
    generalize numAt (s.drop o) p 3 = x at *
    refine ⟨by simp (disch := omega) only [go_sem, simprocAttr, rdA], rfl, ?_⟩
    simp (disch := omega) only [go_sem, simprocAttr]
    refine call_ro hord rfl rfl ?_
    simp (disch := omega) only [go_sem, simprocAttr, hx2, hpn, hnl, hll, hxl, nats_set]
    refine hR1 (j + 1, l.set pj x, a1, hv1, p + 3) _ (by simp only; omega) ⟨hlt, ?_, by simp [hll], hr1, by simp only; rw [show nc - (j + 1) = m by omega]; exact hg⟩ (.le (by simp (disch := omega) only [go_sem, simprocAttr, stI, rdA]))
    intro n hn
    rcases List.mem_or_eq_of_mem_set hn with hn | hn
    ·exact hl n hn
    ·omega
   ·rw [if_neg hf] at hr1
    rw [if_neg hf, decide_eq_false hf]
    rw [num_no rfl (by simp only; omega)] at hg
    simp only at hg
    rw [firstS_err _ _ _ _ _ (by simp)] at hg
    refine ⟨by simp (disch := omega) only [go_sem, simprocAttr, rdA], rfl, ?_⟩
    simp (disch := omega) only [go_sem, simprocAttr]
    exact pt_bad hR 6 (by rw [hbadG (by rw [← hg]; simp), ← hg]) (by decide) a1 hv1 (by simp (disch := omega) only [go_sem, simprocAttr, stI, rdA])
  ·obtain rfl : j = nc := by omega
   rw [Nat.sub_self] at hg
   have hGe : (l, (⟨p, out, 0⟩ : SS)) = G := hg
   subst hGe
   have hsub : sub3 (nats l) 0 19 = nats l := by rw [← hll]; exact nats_take
   simp (disch := omega) only [go_sem, simprocAttr, stI]
   exact hRX (a, hv) _ ⟨hr, rfl, hl, hll⟩ (.frz 62057 (.le (by simp (disch := omega) only [go_sem, simprocAttr, stI, rdA, hsub])))
 ·obtain ⟨a', hv'⟩ := z
  obtain ⟨g1, g2, g3, g4⟩ := hz
  simp only at g1 g2 g3 g4 ⊢
  have n1 := hnew_ok G.1 g3 (by omega)
  unfold firstF at hD
  rw [if_neg (by rw [g2]; simp)] at hD
  cases hck : chkL G.1 with
  | false =>
   rw [hck, if_neg (by decide)] at n1
   rw [if_pos hck] at hD
   simp (disch := omega) only [go_sem, simprocAttr, stI]
   refine call_ro' n1 rfl ?_
   rintro h' v as' ⟨rfl, rfl⟩
   refine ⟨rfl, rfl, ?_⟩
   simp (disch := omega) only [go_sem, simprocAttr]
   exact pt_bad hR 3 (by rw [hD]) (by decide) a' hv' (by simp (disch := omega) only [go_sem, simprocAttr, stI, rdA])
  | true =>
   rw [hck, if_pos rfl] at n1
   rw [if_neg (by rw [hck]; decide), g2] at hD
   have hb := it_b s o most a' hv' out G.1 nl nd G.2.p D (E := E) (R := R) hN hs ho hR g1 g3 g4 hck h1 h2 h3 h4 hD
   simp (disch := omega) only [go_sem, simprocAttr, stI]
   refine call_ro' n1 rfl ?_
   rintro h' v as' ⟨rfl, rfl⟩
   refine ⟨rfl, rfl, ?_⟩
   simp only [stI, tblA] at hb
   simp (disch := omega) only [go_sem, simprocAttr, tblA]
   exact hb
theorem and31 {n : Nat} (h : n < 65536) : bits .and .u32 (n : Int) 31 = ((n % 32 : Nat) : Int) := by
 show IntKind.u32.wrap ((BitVec.ofInt 32 (n : Int) &&& BitVec.ofInt 32 ((31 : Nat) : Int)).toNat : Int) = _
 rw [BitVec.ofInt_natCast, BitVec.ofInt_natCast, BitVec.toNat_and, BitVec.toNat_ofNat, BitVec.toNat_ofNat, Nat.mod_eq_of_lt (by omega), Nat.mod_eq_of_lt (by decide), show (31 : Nat) = 2 ^ 5 - 1 from rfl, Nat.and_two_pow_sub_one_eq_mod]
 exact wrap_u32 (by omega)
theorem fdiv_pow (x k : Nat) (h : k ≤ 32) : (x : Int).fdiv (2 ^ min k 32) = ((x / 2 ^ k : Nat) : Int) := by
 rw [Nat.min_eq_left h, Int.fdiv_eq_ediv_of_nonneg _ (by exact_mod_cast Nat.zero_le (2 ^ k))]
 norm_cast
set_option maxHeartbeats 1000000 in
theorem itables_ok (s : Bs) (o most a hv : Nat) (S : SS) (hs : s.length ≤ 1000000000) (ho : o ≤ s.length) (hm : most ≤ 1000000) (hr : RdOK s a hv (8 * o + S.p)) (hol : S.out.length ≤ most) (he : S.err = 0) :
    Eng.Spec Tryz.prog 105 (stI s o most a hv S.out) [.vptr IST 0] (fun h' v ar => PT s o most S.out (dynS (s.drop o) S) h' v ∧ ar = [.vptr IST 0]) := by
 refine Cod.itables_spec (fun E R hN hR => ?_)
 have htl : (s.drop o).length = s.length - o := List.length_drop
 have hb := rbits_d s o S.p a hv 14 hs hr (by omega)
 rw [dynS_eq] at hR
 obtain ⟨p, out, err⟩ := S
 simp only at he hr hol hb hR ⊢
 subst he
 simp (disch := omega) only [go_sem, simprocAttr, stI]
 refine call_win [(RD, .var (rdA s a hv o))] hb (by simp (disch := omega) only [go_sem, simprocAttr]) nofun ?_
 rintro h' v ar ⟨a1, hv1, hr1, rfl, rfl, rfl⟩
 by_cases h14 : 14 ≤ 8 * (s.drop o).length - p
 ·rw [if_pos h14] at hr1
  rw [if_pos h14, decide_eq_true h14]
  rw [if_neg (by omega)] at hR
  refine ⟨by simp (disch := omega) only [go_sem, simprocAttr, rdA], rfl, ?_⟩
  have hlt := num_lt (s.drop o) p 14
  have m5 := num_mod (s.drop o) p (m := 5) (n := 14) (by decide)
  have d5 := num_div (s.drop o) p (m := 5) (n := 14) (by decide)
  have d10 := num_div (s.drop o) p (m := 10) (n := 14) (by decide)
  have m55 := num_mod (s.drop o) (p + 5) (m := 5) (n := 9) (by decide)
  generalize numAt (s.drop o) p 14 = x at *
  have f5 := fdiv_pow x 5 (by decide)
  have f10 := fdiv_pow x 10 (by decide)
  have c1 := and31 (n := x) (by omega)
  have c2 := and31 (n := x / 2 ^ 5) (by omega)
  have w1 : x % 32 = numAt (s.drop o) p 5 := m5
  have w2 : x / 2 ^ 5 % 32 = numAt (s.drop o) (p + 5) 5 := by rw [d5]; exact m55
  have w3 : x / 2 ^ 10 = numAt (s.drop o) (p + 10) 4 := d10
  rw [← w1, ← w2, ← w3] at hR
  have b1 : x % 32 < 32 := Nat.mod_lt _ (by decide)
  have b2 : x / 2 ^ 5 % 32 < 32 := Nat.mod_lt _ (by decide)
  have b3 : x / 2 ^ 10 < 16 := by omega
  generalize x % 32 = y1 at *
  generalize x / 2 ^ 5 % 32 = y2 at *
  generalize x / 2 ^ 10 = y3 at *
  have bad : (286 < y1 + 257 ∨ 30 < y2 + 1) → R [(40014, Win.var (rdA s a1 hv1 o)), (65032, Win.var [AV.vptr 40014 0, AV.sl 60022 0 (List.length out), AV.int IntKind.i64 ↑most]), (60022, Win.arr 1 (List.map ub out))] (.tup [.lit (.pointer none), .lit (.pointer none), .int .i64 3]) [.vptr 65032 0] := by
   intro hx
   rw [if_pos hx] at hR
   exact pt_bad hR 3 rfl (by decide) a1 hv1 (by simp (disch := omega) only [go_sem, simprocAttr, stI, rdA])
  by_cases hx1 : 286 < y1 + 257
  ·have bad := bad (.inl hx1)
   simp (disch := omega) only [go_sem, simprocAttr, f5, f10, c1, c2]
   (repeat (first | refine gskip_of ?_ | refine gcskip_of ?_ | refine gopen_of ?_) <;> simp (disch := omega) only [go_sem, simprocAttr])
   exact bad
  ·by_cases hx2 : 30 < y2 + 1
   ·have bad := bad (.inr hx2)
    simp (disch := omega) only [go_sem, simprocAttr, f5, f10, c1, c2]
    (repeat (first | refine gskip_of ?_ | refine gcskip_of ?_ | refine gopen_of ?_) <;> simp (disch := omega) only [go_sem, simprocAttr])
    exact bad
   ·rw [if_neg (by omega)] at hR
    clear bad
    have hf := it_f s o most a1 hv1 out (y1 + 257) (y2 + 1) (y3 + 4) (p + 14) _ (E := E) (R := R) hN hs ho hR hr1 (by omega) (by omega) (by omega) (by omega) (by omega) rfl
    clear hR
    simp (disch := omega) only [go_sem, simprocAttr, f5, f10, c1, c2]
    (repeat (first | refine gskip_of ?_ | refine gcskip_of ?_ | refine gopen_of ?_) <;> simp (disch := omega) only [go_sem, simprocAttr])
    simp only [rdA] at hf
    simp (disch := omega) only [go_sem, simprocAttr, rdA]
    exact hf
 ·rw [if_neg h14] at hr1
  rw [if_neg h14, decide_eq_false h14]
  rw [if_pos (by omega)] at hR
  refine ⟨by simp (disch := omega) only [go_sem, simprocAttr, rdA], rfl, ?_⟩
  simp (disch := omega) only [go_sem, simprocAttr]
  exact pt_bad hR 6 rfl (by decide) a1 hv1 (by simp (disch := omega) only [go_sem, simprocAttr, stI, rdA])
end Go.Proofs.YtjoefngnjoofeaaGreatDoor.Pk
namespace Go.Proofs.YtjoefngnjoofeaaGreatDoor.Pk
open Eng
set_option maxRecDepth 10000
theorem and1 {n : Nat} (h : n < 65536) : bits .and .u32 (n : Int) 1 = ((n % 2 : Nat) : Int) := by
 show IntKind.u32.wrap ((BitVec.ofInt 32 (n : Int) &&& BitVec.ofInt 32 ((1 : Nat) : Int)).toNat : Int) = _
 rw [BitVec.ofInt_natCast, BitVec.ofInt_natCast, BitVec.toNat_and, BitVec.toNat_ofNat, BitVec.toNat_ofNat, Nat.mod_eq_of_lt (by omega), Nat.mod_eq_of_lt (by decide), show (1 : Nat) = 2 ^ 1 - 1 from rfl, Nat.and_two_pow_sub_one_eq_mod]
 exact wrap_u32 (by omega)
abbrev QR (R : HP → AV → List AV → Prop) : KQ := KQ.post [.tmp 2] 1 R
abbrev PRo (s : Bs) (o most : Nat) (G : SS) : HP → AV → List AV → Prop := fun h' v ar => PI s o most G h' v ∧ ar = [.vptr IST 0]
theorem pr_bad {s : Bs} {o most : Nat} {G : SS} {R : HP → AV → List AV → Prop} (hR : PostTo (PRo s o most G) R) (e : Nat) (he : G.err = e) (hne : e ≠ 0) (a' hv' : Nat) (out : Bs) {h : HP} (hh : leH h (stI s o most a' hv' out)) :
    R h (.int .i64 (e : Nat)) [.vptr 65032 0] :=
 hR.le (h' := stI s o most a' hv' out) hh ⟨⟨a', hv', out, rfl, by rw [he], fun h => absurd h (by rw [he]; exact hne)⟩, rfl⟩
def doneG (t : Bs) (most h : Nat) (S G : SS) : Prop := if h % 2 = 1 then S = G else runS t most S = G
def contG (t : Bs) (most h : Nat) (S G : SS) : Prop := if S.err ≠ 0 then G.err = S.err else doneG t most h S G
structure RSt where
 h : Nat
 l : List Nat
 d : List Nat
 a : Nat
 hv : Nat
 S : SS
def irF (s : Bs) (o most : Nat) (l : Nat) (z : RSt) : St :=
 if l = 0 then ⟨[(0, .vptr 65032 0), (2000000, .vptr 65032 0)], stI s o most z.a z.hv z.S.out⟩
 else if l = 1 then ⟨[(0, .vptr 65032 0), (3, .int .u32 z.h), (2000000, .vptr 65032 0)], stI s o most z.a z.hv z.S.out⟩
 else ⟨[(0, .vptr 65032 0), (3, .int .u32 z.h), (7, tblA z.l), (8, tblA z.d), (2000000, .vptr 65032 0)], stI s o most z.a z.hv z.S.out⟩
structure RB (s : Bs) (o most : Nat) (z : RSt) : Prop where
 r : RdOK s z.a z.hv (8 * o + z.S.p)
 e : z.S.err = 0
 ol : z.S.out.length ≤ most
 hl : z.h < 8
structure TB (l d : List Nat) : Prop where
 l15 : ∀ n ∈ l, n ≤ 15
 d15 : ∀ n ∈ d, n ≤ 15
 ll : l.length ≤ 320
 dl : d.length ≤ 320
 lc : chkL l = true
 dc : chkL d = true
def irI (s : Bs) (o most : Nat) (G : SS) (l : Nat) (z : RSt) : Prop :=
 RB s o most z ∧ (if l = 0 then runS (s.drop o) most z.S = G else if l = 1 then doneG (s.drop o) most z.h z.S G else if l = 2 then TB z.l z.d ∧ contG (s.drop o) most z.h (packS (s.drop o) most z.l z.d z.S) G else False)
def irM (s : Bs) (o l : Nat) (z : RSt) : Nat := 4 * (8 * (s.drop o).length + 1 - z.S.p) + min l 2
theorem RB.pl {s : Bs} {o most : Nat} {z : RSt} (h : RB s o most z) : z.S.p ≤ 8 * (s.drop o).length := by
 have := h.r.h2; have := h.r.h3
 rw [List.length_drop]; omega
set_option maxHeartbeats 2000000 in
theorem irun_b (s : Bs) (o most : Nat) (G : SS) (z : RSt) {E : Env} {R : Nat → KS} {R0 : HP → AV → List AV → Prop} (hN : E.N ≤ 1000000) (hs : s.length ≤ 1000000000) (ho : o ≤ s.length) (hm : most ≤ 1000000) (hR : PostTo (PRo s o most G) R0) (hz : RB s o most z) (hg : runS (s.drop o) most z.S = G)
    (hJ : ∀ l' z' st', irM s o l' z' < irM s o 0 z → irI s o most G l' z' → Wk st' (irF s o most l' z') → (R l').ap st') :
    vcW Tryz.prog E Cod.irun_7 (KQ.jmps R (QR R0)) ⟨[(0, .vptr 65032 0), (2000000, .vptr 65032 0)], stI s o most z.a z.hv z.S.out⟩ := by
 have hpl := hz.pl
 obtain ⟨h, l, d, a, hv, S⟩ := z
 obtain ⟨hr, he, hol, hh⟩ := hz
 simp only at hr he hol hh hg hpl ⊢
 rw [run_eq hpl] at hg
 have htl : (s.drop o).length = s.length - o := List.length_drop
 have hb := rbits_d s o S.p a hv 3 hs hr (by omega)
 simp (disch := omega) only [go_sem, simprocAttr, stI]
 refine call_win [(RD, .var (rdA s a hv o))] hb (by simp (disch := omega) only [go_sem, simprocAttr]) nofun ?_
 rintro h' v ar ⟨a1, hv1, hr1, rfl, rfl, rfl⟩
 by_cases h3 : 3 ≤ 8 * (s.drop o).length - S.p
 ·rw [if_pos h3] at hr1
  rw [if_pos h3, decide_eq_true h3]
  have hbk : blockS (s.drop o) most S = _ := if_neg (show ¬ 8 * (s.drop o).length < S.p + 3 by omega)
  rw [hbk] at hg
  clear hbk
  have m1 := num_mod (s.drop o) S.p (m := 1) (n := 3) (by decide)
  have d1 := num_div (s.drop o) S.p (m := 1) (n := 3) (by decide)
  have hlt := num_lt (s.drop o) S.p 3
  simp only at hg
  rw [← m1, show (2 : Nat) = 3 - 1 from rfl, ← d1] at hg
  generalize numAt (s.drop o) S.p 3 = x at *
  have f1 := fdiv_pow x 1 (by decide)
  refine ⟨by simp (disch := omega) only [go_sem, simprocAttr, rdA], rfl, ?_⟩
  have hx1 : x % 2 ^ 1 = x % 2 := rfl
  have hx2 : x / 2 ^ 1 = x / 2 := rfl
  rw [hx1, hx2] at hg
  rw [hx2] at f1
  have hxl : x / 2 < 4 := by omega
  -- the end of a block
  have hdone : ∀ S' : SS, (if x / 2 = 0 then storedS (s.drop o) most { S with p := S.p + 3 } else if x / 2 = 1 then packS (s.drop o) most fixL fixD { S with p := S.p + 3 }
      else if x / 2 = 2 then (if (dynS (s.drop o) { S with p := S.p + 3 }).2.err ≠ 0 then (dynS (s.drop o) { S with p := S.p + 3 }).2 else packS (s.drop o) most (dynS (s.drop o) { S with p := S.p + 3 }).1.1 (dynS (s.drop o) { S with p := S.p + 3 }).1.2 (dynS (s.drop o) { S with p := S.p + 3 }).2) else { S with p := S.p + 3, err := 3 }) = S' →
      contG (s.drop o) most x S' G := by
   intro S' hS'
   rw [hS'] at hg
   unfold contG
   by_cases hSe : S'.err = 0
   ·rw [if_neg (by simpa using hSe)]
    unfold doneG
    by_cases hx : x % 2 = 1
    ·rw [if_pos (.inr (by simpa using hx))] at hg
     rw [if_pos hx]; exact hg
    ·rw [if_neg (fun h => h.elim (fun h => h hSe) (fun h => hx (by simpa using h)))] at hg
     rw [if_neg hx]; exact hg
   ·rw [if_pos (.inl hSe)] at hg
    rw [if_pos hSe, hg]
  clear hg
  have hr1' : RdOK s a1 hv1 (8 * o + (S.p + 3)) := hr1
  simp (disch := omega) only [go_sem, simprocAttr, f1]
  obtain hk | hk | hk | hk : x / 2 = 0 ∨ x / 2 = 1 ∨ x / 2 = 2 ∨ x / 2 = 3 := by omega
  ·rw [hk]
   have hst := istored_ok s o most a1 hv1 { S with p := S.p + 3 } hs ho hm hr1' hol he
   have hc := hdone _ (if_pos hk)
   have hmv : Mv (s.drop o) most { S with p := S.p + 3 } (storedS (s.drop o) most { S with p := S.p + 3 }) := mv_stored
   generalize storedS (s.drop o) most { S with p := S.p + 3 } = F at *
   simp (disch := omega) only [go_sem, simprocAttr]
   refine call_win (stI s o most a1 hv1 S.out) hst (by simp (disch := omega) only [go_sem, simprocAttr, stI, rdA]) nofun ?_
   rintro h' v ar ⟨⟨a2, hv2, out2, rfl, rfl, hF⟩, rfl⟩
   refine ⟨by simp (disch := omega) only [go_sem, simprocAttr, stI, rdA], rfl, ?_⟩
   unfold contG at hc
   by_cases hFe : F.err = 0
   ·obtain ⟨rfl, hr2⟩ := hF hFe
    rw [if_neg (by simpa using hFe)] at hc
    simp (disch := omega) only [go_sem, simprocAttr, hFe]
    have h1 := hmv.p
    simp only at h1
    exact hJ 1 ⟨x, [], [], a2, hv2, F⟩ _ (by simp only [irM]; omega) ⟨⟨hr2, hFe, hmv.o hol, by simp only; omega⟩, by rw [if_neg (by decide), if_pos rfl]; exact hc⟩ (.le (by simp (disch := omega) only [go_sem, simprocAttr, irF, stI, rdA]))
   ·rw [if_pos hFe] at hc
    have hi : ¬ ((F.err : Nat) : Int) = 0 := by omega
    simp (disch := omega) only [go_sem, simprocAttr, hi]
    exact pr_bad hR F.err hc hFe a2 hv2 out2 (by simp (disch := omega) only [go_sem, simprocAttr, stI, rdA])
  ·rw [hk]
   have hc := hdone _ ((if_neg (by omega)).trans (if_pos hk))
   simp (disch := omega) only [go_sem, simprocAttr]
   refine call_ro ifixed_ok rfl rfl ?_
   simp (disch := omega) only [go_sem, simprocAttr, tblA]
   refine hJ 2 ⟨x, fixL, fixD, a1, hv1, { S with p := S.p + 3 }⟩ _ (by simp only [irM]; omega) ⟨⟨hr1', he, hol, by simp only; omega⟩, ?_⟩ (.le ?_)
   ·rw [if_neg (by decide), if_neg (by decide), if_pos rfl]
    exact ⟨⟨fixL_ok.1, fixD_ok.1, by simp only; rw [fixL_ok.2.1]; decide, by simp only; rw [fixD_ok.2.1]; decide, fixL_ok.2.2, fixD_ok.2.2⟩, hc⟩
   ·simp (disch := omega) only [go_sem, simprocAttr, irF, stI, rdA, tblA]
  ·rw [hk]
   have hit := itables_ok s o most a1 hv1 { S with p := S.p + 3 } hs ho hm hr1' hol he
   have hc := hdone _ ((if_neg (by omega)).trans ((if_neg (by omega)).trans (if_pos hk)))
   have hmv : Mv (s.drop o) most { S with p := S.p + 3 } (dynS (s.drop o) { S with p := S.p + 3 }).2 := mv_dyn
   have hdo := dyn_out (s.drop o) { S with p := S.p + 3 }
   generalize dynS (s.drop o) { S with p := S.p + 3 } = D at *
   simp (disch := omega) only [go_sem, simprocAttr]
   refine call_win (stI s o most a1 hv1 S.out) hit (by simp (disch := omega) only [go_sem, simprocAttr, stI, rdA]) nofun ?_
   rintro h' v ar ⟨⟨a2, hv2, rfl, hbad, hgood⟩, rfl⟩
   by_cases hDe : D.2.err = 0
   ·obtain ⟨rfl, hr2, hc1, hc2, hl1, hl2, hn1, hn2⟩ := hgood hDe
    rw [if_neg (by simpa using hDe)] at hc
    refine ⟨by simp (disch := omega) only [go_sem, simprocAttr, stI, rdA], rfl, ?_⟩
    simp (disch := omega) only [go_sem, simprocAttr, stI, rdA, tblA]
    have h1 := hmv.p
    simp only at h1 hdo
    refine hJ 2 ⟨x, D.1.1, D.1.2, a2, hv2, D.2⟩ _ (by simp only [irM]; omega) ⟨⟨hr2, hDe, by simp only; rw [hdo]; exact hol, by simp only; omega⟩, ?_⟩ (.le ?_)
    ·rw [if_neg (by decide), if_neg (by decide), if_pos rfl]
     exact ⟨⟨hl1, hl2, by simp only; omega, hn2, hc1, hc2⟩, hc⟩
    ·simp (disch := omega) only [go_sem, simprocAttr, irF, stI, rdA, tblA, hdo]
   ·obtain rfl := hbad hDe
    rw [if_pos hDe] at hc
    unfold contG at hc
    rw [if_pos hDe] at hc
    refine ⟨by simp (disch := omega) only [go_sem, simprocAttr, stI, rdA], rfl, ?_⟩
    have hi : ¬ ((D.2.err : Nat) : Int) = 0 := by omega
    simp (disch := omega) only [go_sem, simprocAttr, hi, tblN]
    exact pr_bad hR D.2.err hc hDe a2 hv2 S.out (by simp (disch := omega) only [go_sem, simprocAttr, stI, rdA])
  ·rw [hk]
   have hc := hdone _ ((if_neg (by omega)).trans ((if_neg (by omega)).trans (if_neg (by omega))))
   unfold contG at hc
   rw [if_pos (by simp)] at hc
   simp (disch := omega) only [go_sem, simprocAttr]
   exact pr_bad hR 3 hc (by decide) a1 hv1 S.out (by simp (disch := omega) only [go_sem, simprocAttr, stI, rdA])
 ·rw [if_neg h3] at hr1
  rw [if_neg h3, decide_eq_false h3]
  have hbk : blockS (s.drop o) most S = (true, { S with err := 6 }) := if_pos (show 8 * (s.drop o).length < S.p + 3 by omega)
  rw [hbk, if_pos (.inl (by simp))] at hg
  refine ⟨by simp (disch := omega) only [go_sem, simprocAttr, rdA], rfl, ?_⟩
  simp (disch := omega) only [go_sem, simprocAttr]
  exact pr_bad hR 6 (by rw [← hg]) (by decide) a1 hv1 S.out (by simp (disch := omega) only [go_sem, simprocAttr, stI, rdA])
set_option maxHeartbeats 2000000 in
theorem irun_s (s : Bs) (o most : Nat) (G : SS) (z : RSt) {E : Env} {R : Nat → KS} {R0 : HP → AV → List AV → Prop} (hN : E.N ≤ 1000000) (hs : s.length ≤ 1000000000) (ho : o ≤ s.length) (hm : most ≤ 1000000) (hR : PostTo (PRo s o most G) R0) (hz : RB s o most z) (ht : TB z.l z.d) (hg : contG (s.drop o) most z.h (packS (s.drop o) most z.l z.d z.S) G)
    (hJ : ∀ l' z' st', irM s o l' z' < irM s o 2 z → irI s o most G l' z' → Wk st' (irF s o most l' z') → (R l').ap st') :
    vcW Tryz.prog E (.seq .skip Cod.irun_11) (KQ.jmps R (QR R0)) ⟨[(0, .vptr 65032 0), (3, .int .u32 z.h), (7, tblA z.l), (8, tblA z.d), (2000000, .vptr 65032 0)], stI s o most z.a z.hv z.S.out⟩ := by
 have hpl := hz.pl
 obtain ⟨h, l, d, a, hv, S⟩ := z
 obtain ⟨hr, he, hol, hh⟩ := hz
 simp only at hr he hol hh hg hpl ht ⊢
 rw [pack_eq hpl, if_neg (by simpa using he)] at hg
 have htl : (s.drop o).length = s.length - o := List.length_drop
 have hread := hread_ok l ht.l15 ht.ll ht.lc s a hv o (8 * o + S.p) (by omega) hr
 rw [← rest_drop] at hread
 simp only [tblA] at hread
 generalize hre : readL (codesL l) (restB (s.drop o) S.p) = re at *
 simp (disch := omega) only [go_sem, simprocAttr, stI, tblA]
 refine call_win [(RD, .var (rdA s a hv o))] hread (by simp (disch := omega) only [go_sem, simprocAttr]) nofun ?_
 rintro h' v ar ⟨a2, hv2, p2, sy, hr2, rfl, rfl, hk2, rfl⟩
 refine ⟨by simp (disch := omega) only [go_sem, simprocAttr, rdA], rfl, ?_⟩
 by_cases hre2 : re.2.2 = 0
 ·obtain ⟨rfl, rfl⟩ := hk2 hre2
  have hsym : symS (s.drop o) l S = (re.1, { S with p := S.p + re.2.1 }) := by
   have := sym_ok (t := s.drop o) (l := l) (S := S) he (by rw [hre]; exact hre2)
   simp only [hre] at this
   exact this
  have hrb := read_bits (codesL l) (restB (s.drop o) S.p) (by rw [hre]; exact hre2)
  rw [hre, rest_len] at hrb
  have hcl : (codesL l).length = l.length := by simp [codesL]
  have hll := ht.ll
  rw [show 8 * o + S.p + re.2.1 = 8 * o + (S.p + re.2.1) by omega] at hr2
  have hst : stepS (s.drop o) most l d S = (if re.1 = 256 then (true, { S with p := S.p + re.2.1 }) else if re.1 < 256 then (false, putS most (UInt8.ofNat re.1) { S with p := S.p + re.2.1 }) else (false, repS (s.drop o) most d re.1 { S with p := S.p + re.2.1 })) := by
   unfold stepS
   rw [hsym]
   exact if_neg (by simpa using he)
  rw [hst] at hg
  have hp2 : S.p < S.p + re.2.1 ∧ S.p + re.2.1 ≤ 8 * (s.drop o).length := by omega
  generalize S.p + re.2.1 = p2 at *
  have hsy : re.1 ≤ 320 := by omega
  generalize re.1 = sy at *
  by_cases h256 : sy = 256
  ·rw [if_pos h256, if_pos rfl] at hg
   unfold contG at hg
   rw [if_neg (by simpa using he)] at hg
   simp (disch := omega) only [go_sem, simprocAttr, hre2, h256]
   refine hJ 1 ⟨h, [], [], a2, hv2, { S with p := p2 }⟩ _ (by simp only [irM]; omega) ⟨⟨hr2, he, hol, hh⟩, ?_⟩ (.le ?_)
   ·rw [if_neg (by decide), if_pos rfl]; exact hg
   ·simp (disch := omega) only [go_sem, simprocAttr, irF, stI, rdA]
  ·rw [if_neg h256] at hg
   have hi : ¬ ((sy : Nat) : Int) = 256 := by omega
   simp (disch := omega) only [go_sem, simprocAttr, hre2, hi]
   -- behind the symbol
   refine vcW_cut (y := Cod.irun_14) hN (fun y : Nat × Nat × Bs × SS => ⟨[(0, .vptr 65032 0), (3, .int .u32 h), (5, .int .i64 y.2.2.2.err), (7, tblA l), (8, tblA d), (2000000, .vptr 65032 0)], stI s o most y.1 y.2.1 y.2.2.1⟩)
    (fun y => Mv (s.drop o) most { S with p := p2 } y.2.2.2 ∧ contG (s.drop o) most h (packS (s.drop o) most l d y.2.2.2) G ∧ (y.2.2.2.err = 0 → y.2.2.1 = y.2.2.2.out ∧ RdOK s y.1 y.2.1 (8 * o + y.2.2.2.p))) (fun R2 hR2 => ?_) (fun y hy => ?_)
   ·by_cases hlt : sy < 256
    ·rw [if_pos hlt, if_neg (by simp)] at hg
     simp only at hg
     have hput := iput_ok s o most a2 hv2 S.out hm hol (UInt8.ofNat sy)
     have hmv : Mv (s.drop o) most { S with p := p2 } (putS most (UInt8.ofNat sy) { S with p := p2 }) := mv_put
     have hF : putS most (UInt8.ofNat sy) { S with p := p2 } = ⟨p2, if S.out.length = most then S.out else S.out ++ [UInt8.ofNat sy], if S.out.length = most then 2 else 0⟩ := by
      unfold putS
      rw [if_neg (by simpa using he)]
      simp only
      by_cases hf : S.out.length = most
      ·rw [if_pos (by omega), if_pos hf, if_pos hf]
      ·rw [if_neg (by omega), if_neg hf, if_neg hf, he]
     have hb : ((UInt8.ofNat sy).toNat : Int) = (sy : Int) := by rw [UInt8.toNat_ofNat']; omega
     rw [hb] at hput
     generalize putS most (UInt8.ofNat sy) { S with p := p2 } = F at *
     have hF1 : F.out = (if S.out.length = most then S.out else S.out ++ [UInt8.ofNat sy]) := by rw [hF]
     have hF2 : F.err = (if S.out.length = most then 2 else 0) := by rw [hF]
     have hF3 : F.p = p2 := by rw [hF]
     rw [← hF1, ← hF2] at hput
     clear hF hF1
     have hlt2 : ((sy : Nat) : Int) < 256 := by omega
     simp (disch := omega) only [go_sem, simprocAttr, hlt2]
     refine call_win (stI s o most a2 hv2 S.out) hput (by simp (disch := omega) only [go_sem, simprocAttr, stI, rdA]) nofun ?_
     rintro h' v ar ⟨rfl, rfl, rfl⟩
     refine ⟨by simp (disch := omega) only [go_sem, simprocAttr, stI, rdA], rfl, ?_⟩
     simp (disch := omega) only [go_sem, simprocAttr, stI, rdA, tblA]
     exact hR2 (a2, hv2, F.out, F) _ ⟨hmv, hg, fun _ => ⟨rfl, by rw [hF3]; exact hr2⟩⟩ (.le (by simp (disch := omega) only [go_sem, simprocAttr, stI, rdA, tblA]))
    ·rw [if_neg hlt, if_neg (by simp)] at hg
     simp only at hg
     have hrp := irepeat_ok s o most a2 hv2 { S with p := p2 } d sy hs ho hm hr2 hol he ht.d15 ht.dl ht.dc (by omega) (by omega)
     have hmv : Mv (s.drop o) most { S with p := p2 } (repS (s.drop o) most d sy { S with p := p2 }) := mv_rep
     generalize repS (s.drop o) most d sy { S with p := p2 } = F at *
     have hlt2 : ¬ ((sy : Nat) : Int) < 256 := by omega
     simp only [tblA] at hrp
     simp (disch := omega) only [go_sem, simprocAttr, hlt2, tblA]
     refine call_win (stI s o most a2 hv2 S.out) hrp (by simp (disch := omega) only [go_sem, simprocAttr, stI, rdA]) nofun ?_
     rintro h' v ar ⟨⟨a3, hv3, out3, rfl, rfl, hF⟩, rfl⟩
     refine ⟨by simp (disch := omega) only [go_sem, simprocAttr, stI, rdA], rfl, ?_⟩
     simp (disch := omega) only [go_sem, simprocAttr, stI, rdA, tblA]
     exact hR2 (a3, hv3, out3, F) _ ⟨hmv, hg, hF⟩ (.le (by simp (disch := omega) only [go_sem, simprocAttr, stI, rdA, tblA]))
   ·obtain ⟨a3, hv3, out3, F⟩ := y
    obtain ⟨g1, g2, g3⟩ := hy
    simp only at g1 g2 g3 ⊢
    by_cases hFe : F.err = 0
    ·obtain ⟨rfl, hr3⟩ := g3 hFe
     simp (disch := omega) only [go_sem, simprocAttr, hFe, tblA]
     have h1 := g1.p
     have h2 := g1.q hp2.2
     simp only at h1
     refine hJ 2 ⟨h, l, d, a3, hv3, F⟩ _ (by simp only [irM]; omega) ⟨⟨hr3, hFe, g1.o hol, hh⟩, ?_⟩ (.le ?_)
     ·rw [if_neg (by decide), if_neg (by decide), if_pos rfl]
      exact ⟨ht, g2⟩
     ·simp (disch := omega) only [go_sem, simprocAttr, irF, stI, rdA, tblA]
    ·rw [show packS (s.drop o) most l d F = F from pack_err _ hFe] at g2
     unfold contG at g2
     rw [if_pos hFe] at g2
     have hi : ¬ ((F.err : Nat) : Int) = 0 := by omega
     simp (disch := omega) only [go_sem, simprocAttr, hi, tblA]
     exact pr_bad hR F.err g2 hFe a3 hv3 out3 (by simp (disch := omega) only [go_sem, simprocAttr, stI, rdA])
 ·have hsym : symS (s.drop o) l S = (0, { S with err := re.2.2 }) := by
   have := sym_no (t := s.drop o) (l := l) (S := S) he (by rw [hre]; exact hre2)
   simp only [hre] at this
   exact this
  have hst : stepS (s.drop o) most l d S = (true, { S with err := re.2.2 }) := by
   unfold stepS
   rw [hsym]
   exact if_pos hre2
  rw [hst, if_pos rfl] at hg
  unfold contG at hg
  rw [if_pos hre2] at hg
  have hi : ¬ ((re.2.2 : Nat) : Int) = 0 := by omega
  simp (disch := omega) only [go_sem, simprocAttr, hi]
  exact pr_bad hR re.2.2 hg hre2 a2 hv2 S.out (by simp (disch := omega) only [go_sem, simprocAttr, stI, rdA])
set_option maxHeartbeats 1000000 in
theorem irun_ok (s : Bs) (o most a hv : Nat) (S : SS) (hs : s.length ≤ 1000000000) (ho : o ≤ s.length) (hm : most ≤ 1000000) (hr : RdOK s a hv (8 * o + S.p)) (hol : S.out.length ≤ most) (he : S.err = 0) :
    Eng.Spec Tryz.prog 77 (stI s o most a hv S.out) [.vptr IST 0] (fun h' v ar => PI s o most (runS (s.drop o) most S) h' v ∧ ar = [.vptr IST 0]) := by
 refine Cod.irun_spec (fun E R hN hR => ?_)
 generalize hG : runS (s.drop o) most S = G at *
 simp (disch := omega) only [go_sem, simprocAttr, stI]
 refine vcW_scopes hN (irF s o most) (irI s o most G) (irM s o) (fun R1 hR1 => ?_) (fun l z hz => ?_)
 ·simp (disch := omega) only [go_sem, simprocAttr]
  refine vcW_cut (y := Cod.irun_7) hN (fun _ : Unit => ⟨[(0, .vptr 65032 0), (2000000, .vptr 65032 0)], stI s o most a hv S.out⟩) (fun _ => True) (fun R2 hR2 => ?_) (fun _ _ => ?_)
  ·simp (disch := omega) only [go_sem, simprocAttr]
   exact hR2 () _ trivial (.le (by simp (disch := omega) only [go_sem, simprocAttr, stI, rdA]))
  ·exact irun_b s o most G ⟨0, [], [], a, hv, S⟩ hN hs ho hm hR ⟨hr, he, hol, by simp⟩ hG (fun l' z' st' _ h1 h2 => hR1 l' z' st' h1 h2)
 ·obtain ⟨h1, h2⟩ := hz
  by_cases l0 : l = 0
  ·subst l0
   rw [if_pos rfl] at h2
   refine ⟨.seq .skip (.mid Cod.irun_7), rfl, fun R1 hR1 => ?_⟩
   simp (disch := omega) only [go_sem, simprocAttr, irF]
   refine vcW_mid hN ?_
   exact irun_b s o most G z hN hs ho hm hR h1 h2 hR1
  ·rw [if_neg l0] at h2
   by_cases l1 : l = 1
   ·subst l1
    rw [if_pos rfl] at h2
    refine ⟨.seq .skip Cod.irun_17, rfl, fun R1 hR1 => ?_⟩
    have ha := and1 (n := z.h) (by have := h1.hl; omega)
    unfold doneG at h2
    by_cases hx : z.h % 2 = 1
    ·rw [if_pos hx] at h2
     have hi : ¬ ((z.h % 2 : Nat) : Int) = 0 := by omega
     simp (disch := omega) only [go_sem, simprocAttr, irF, ha, hi, stI]
     refine hR.le (h' := stI s o most z.a z.hv z.S.out) (by simp (disch := omega) only [go_sem, simprocAttr, stI, rdA]) ⟨⟨z.a, z.hv, z.S.out, rfl, ?_, fun _ => by rw [← h2]; exact ⟨rfl, h1.r⟩⟩, rfl⟩
     rw [← h2, h1.e]; rfl
    ·rw [if_neg hx] at h2
     have hi : ((z.h % 2 : Nat) : Int) = 0 := by omega
     simp (disch := omega) only [go_sem, simprocAttr, irF, ha, hi, stI]
     refine hR1 0 z _ (by simp only [irM]; omega) ⟨h1, by rw [if_pos rfl]; exact h2⟩ (.le ?_)
     simp (disch := omega) only [go_sem, simprocAttr, irF, stI, rdA]
   ·rw [if_neg l1] at h2
    by_cases l2 : l = 2
    ·subst l2
     rw [if_pos rfl] at h2
     exact ⟨.seq .skip Cod.irun_11, rfl, fun R1 hR1 => irun_s s o most G z hN hs ho hm hR h1 h2.1 h2.2 hR1⟩
    ·rw [if_neg l2] at h2
     exact h2.elim
end Go.Proofs.YtjoefngnjoofeaaGreatDoor.Pk
namespace Go.Proofs.YtjoefngnjoofeaaGreatDoor.Pk
open Eng
set_option maxRecDepth 10000
theorem bnew_okR (s : Bs) (a : Nat) (hs : s.length ≤ 1000000000000) (ha : a ≤ s.length) : Eng.Spec Tryz.prog 76 [] [.str s, .int .i64 a] (fun h r ar => h = [(RD, .var (rdA s a 0 a))] ∧ r = .vptr RD 0 ∧ ar = [.undef, .undef]) := by
 refine Cod.bnew_spec (fun E R hN hR => ?_)
 have e : max (0 : Int) (min (a : Int) (s.length : Int)) = a := by omega
 simp (disch := omega) only [go_sem, simprocAttr, e]
 exact hR.le (by simp (disch := omega) only [go_sem, simprocAttr, rdA, numAt]) ⟨rfl, rfl, rfl⟩
set_option maxHeartbeats 1000000 in
theorem inflate_ok (s : Bs) (o most : Nat) (hs : s.length ≤ 1000000000) (ho : o ≤ s.length) (hm : most ≤ 65536) :
    SpecR Tryz.prog 53 [.str s, .int .i64 o, .int .i64 most] (.tup [.str (inflS (s.drop o) most).1, .int .i64 ((inflS (s.drop o) most).2.1 : Nat), .int .i64 ((inflS (s.drop o) most).2.2 : Nat)]) := by
 refine Cod.inflate_spec (fun E R hN hR => ?_)
 have htl : (s.drop o).length = s.length - o := List.length_drop
 have hnew := bnew_okR s o (by omega) ho
 have hr0 : RdOK s o 0 (8 * o + 0) := ⟨by omega, ho, by omega⟩
 have hrun := irun_ok s o most o 0 ⟨0, [], 0⟩ hs ho (by omega) hr0 (by simp) rfl
 unfold inflS at hR
 simp only at hR
 generalize hF : runS (s.drop o) most ⟨0, [], 0⟩ = F at *
 simp (disch := omega) only [go_sem, simprocAttr]
 (repeat (first | refine gskip_of ?_ | refine gcskip_of ?_ | refine gopen_of ?_) <;> simp (disch := omega) only [go_sem, simprocAttr])
 refine call_win [] hnew trivial (fun _ => rfl) ?_
 rintro h' v as' ⟨rfl, rfl, rfl⟩
 refine ⟨by simp (disch := omega) only [go_sem, simprocAttr, rdA], rfl, ?_⟩
 simp (disch := omega) only [go_sem, simprocAttr]
 refine call_wk ⟨[(33, .vptr 65032 0), (9, .vptr 65032 0)], stI s o most o 0 []⟩ (.nilV 65032 1 60022 1 [.vptr 40014 0, .nilsl, .int .i64 most] rfl rfl rfl (.le ?_)) rfl ?_
 ·simp (disch := omega) only [go_sem, simprocAttr, stI, rdA]
 refine call_win (stI s o most o 0 []) hrun (by simp (disch := omega) only [go_sem, simprocAttr, stI, rdA]) nofun ?_
 rintro h' v ar ⟨⟨a3, hv3, out3, rfl, rfl, hPI⟩, rfl⟩
 refine ⟨by simp (disch := omega) only [go_sem, simprocAttr, stI, rdA], rfl, ?_⟩
 by_cases he : F.err = 0
 ·obtain ⟨rfl, hr3⟩ := hPI he
  rw [if_neg (by simpa using he)] at hR
  have hu := rused_bor s a3 hv3 o (8 * o + F.p) (by omega) hr3 (by omega)
  have e1 : (8 * o + F.p + 7) / 8 - o = (F.p + 7) / 8 := by omega
  rw [e1] at hu
  simp only [rdA] at hu
  simp (disch := omega) only [go_sem, simprocAttr, he, stI, rdA]
  refine call_bor [] (by simp (disch := omega) only [go_sem, simprocAttr]) hu trivial (fun _ => rfl) ?_
  rintro h' v ar ⟨rfl, rfl, rfl⟩
  refine ⟨rfl, rfl, ?_⟩
  simp (disch := omega) only [go_sem, simprocAttr]
  exact hR.wk (h' := []) (r' := .tup [.str F.out, .int .i64 ((F.p + 7) / 8 : Nat), .int .i64 (0 : Nat)]) (ar' := [.undef, .undef, .undef]) rfl (.le (by simp (disch := omega) only [go_sem, simprocAttr])) ⟨rfl, rfl⟩
 ·rw [if_pos he] at hR
  have hi : ¬ ((F.err : Nat) : Int) = 0 := by omega
  simp (disch := omega) only [go_sem, simprocAttr, hi]
  exact hR.wk (h' := []) (r' := .tup [.str [], .int .i64 (0 : Nat), .int .i64 (F.err : Nat)]) (ar' := [.undef, .undef, .undef]) rfl (.le (by simp (disch := omega) only [go_sem, simprocAttr])) ⟨rfl, rfl⟩
end Go.Proofs.YtjoefngnjoofeaaGreatDoor.Pk
namespace Go.Proofs.YtjoefngnjoofeaaGreatDoor.Pk
open Eng Sh
set_option maxRecDepth 10000
theorem mv_runF {t : Bs} {most : Nat} : ∀ (k : Nat) (S : SS), Mv t most S (runF t most k S)
 | 0, _ => .refl
 | k + 1, S => by
  unfold runF
  split
  ·exact mv_block.1
  ·exact mv_block.1.trans (mv_runF k _)
theorem inf_len (t : Bs) (most : Nat) : (inflS t most).1.length ≤ most ∧ (inflS t most).2.1 ≤ t.length := by
 unfold inflS
 simp only
 have h := mv_runF (t := t) (most := most) (8 * t.length + 1 - 0) ⟨0, [], 0⟩
 have h1 : (runS t most ⟨0, [], 0⟩).p ≤ 8 * t.length := h.q (by simp)
 have h2 : (runS t most ⟨0, [], 0⟩).out.length ≤ most := h.o (by simp)
 split
 ·exact ⟨by simp, by simp⟩
 ·exact ⟨h2, by simp only; omega⟩
def zlibS (t : Bs) (most : Nat) : Bs × Nat × Nat :=
 if t.length < 2 then ([], 0, 6) else if headB (t.getD 0 0).toNat (t.getD 1 0).toNat = false then ([], 0, 3) else
 if (inflS (t.drop 2) most).2.2 ≠ 0 then ([], 0, (inflS (t.drop 2) most).2.2) else
 if t.length - (2 + (inflS (t.drop 2) most).2.1) < 4 then ([], 0, 6) else
 if bigN ((t.drop (2 + (inflS (t.drop 2) most).2.1)).take 4) ≠ adlV (inflS (t.drop 2) most).1 then ([], 0, 5) else ((inflS (t.drop 2) most).1, (inflS (t.drop 2) most).2.1 + 6, 0)
theorem zlib_len (t : Bs) (most : Nat) : (zlibS t most).1.length ≤ most ∧ (zlibS t most).2.1 ≤ t.length := by
 have h := inf_len (t.drop 2) most
 rw [List.length_drop] at h
 unfold zlibS
 split
 ·exact ⟨by simp, by simp⟩
 ·split
  ·exact ⟨by simp, by simp⟩
  ·split
   ·exact ⟨by simp, by simp⟩
   ·split
    ·exact ⟨by simp, by simp⟩
    ·split
     ·exact ⟨by simp, by simp⟩
     ·exact ⟨h.1, by simp only; omega⟩
abbrev zV (Z : Bs × Nat × Nat) : AV := .tup [.str Z.1, .int .i64 (Z.2.1 : Nat), .int .i64 (Z.2.2 : Nat)]
set_option maxHeartbeats 1000000 in
theorem zread_ok (s : Bs) (o most : Nat) (hs : s.length ≤ 1000000) (ho : o ≤ s.length) (hm : most ≤ 65536) : SpecR Tryz.prog 27 [.str s, .int .i64 o, .int .i64 most] (zV (zlibS (s.drop o) most)) := by
 refine Cod.zread_spec (fun E R hN hR => ?_)
 unfold zlibS at hR
 have hdl : (s.drop o).length = s.length - o := List.length_drop
 rw [hdl] at hR
 by_cases h2 : s.length - o < 2
 ·rw [if_pos h2] at hR
  have hi : (s.length : Int) - (o : Int) < 2 := by omega
  simp (disch := omega) only [go_sem, simprocAttr, hi]
  (repeat (first | refine gskip_of ?_ | refine gcskip_of ?_ | refine gopen_of ?_) <;> simp (disch := omega) only [go_sem, simprocAttr, hi])
  exact hR.ro ⟨rfl, rfl⟩
 ·rw [if_neg h2] at hR
  have hi : ¬ (s.length : Int) - (o : Int) < 2 := by omega
  have gd : ∀ i, (s.drop o).getD i 0 = s.getD (o + i) 0 := fun i => by rw [List.getD_eq_getElem?_getD, List.getElem?_drop, ← List.getD_eq_getElem?_getD]
  rw [gd, gd, Nat.add_zero] at hR
  have hh := zhead_ok (s.getD o 0) (s.getD (o + 1) 0)
  by_cases hb : headB (s.getD o 0).toNat (s.getD (o + 1) 0).toNat = false
  ·rw [if_pos hb] at hR
   rw [hb] at hh
   simp (disch := omega) only [go_sem, simprocAttr, hi]
   (repeat (first | refine gskip_of ?_ | refine gcskip_of ?_ | refine gopen_of ?_) <;> simp (disch := omega) only [go_sem, simprocAttr, hi])
   refine call_ro hh rfl rfl ?_
   simp (disch := omega) only [go_sem, simprocAttr]
   exact hR.ro ⟨rfl, rfl⟩
  ·rw [if_neg hb] at hR
   rw [show headB (s.getD o 0).toNat (s.getD (o + 1) 0).toNat = true by simpa using hb] at hh
   have hinf := inflate_ok s (o + 2) most (by omega) (by omega) hm
   have hil := inf_len (s.drop (o + 2)) most
   rw [List.drop_drop] at hR
   generalize inflS (s.drop (o + 2)) most = I at *
   rw [List.length_drop] at hil
   simp (disch := omega) only [go_sem, simprocAttr, hi]
   (repeat (first | refine gskip_of ?_ | refine gcskip_of ?_ | refine gopen_of ?_) <;> simp (disch := omega) only [go_sem, simprocAttr, hi])
   refine call_ro hh rfl rfl ?_
   simp (disch := omega) only [go_sem, simprocAttr]
   refine call_ro hinf rfl rfl ?_
   by_cases he : I.2.2 = 0
   ·rw [if_neg (by simpa using he)] at hR
    by_cases h4 : s.length - o - (2 + I.2.1) < 4
    ·rw [if_pos h4] at hR
     have hj : (s.length : Int) - ((o : Int) + 2 + (I.2.1 : Int)) < 4 := by omega
     simp (disch := omega) only [go_sem, simprocAttr, he, hj]
     exact hR.ro ⟨rfl, rfl⟩
    ·rw [if_neg h4] at hR
     have hj : ¬ (s.length : Int) - ((o : Int) + 2 + (I.2.1 : Int)) < 4 := by omega
     rw [List.drop_drop] at hR
     have e1 : o + (2 + I.2.1) = o + 2 + I.2.1 := by omega
     rw [e1] at hR
     generalize hu : (s.drop (o + 2 + I.2.1)).take 4 = u at *
     have hul : u.length = 4 := by rw [← hu, List.length_take, List.length_drop]; omega
     have hfb := frombig_ok u (by omega)
     have had := adler_ok I.1 (by omega)
     have hal := adlV_lt I.1
     have hbl : bigN u < 4294967296 := by
      have := bigN_lt u 4 (by omega)
      rw [List.take_of_length_le (by omega)] at this
      exact this
     have et : ((o : Int) + 2 + (I.2.1 : Int)).toNat = o + 2 + I.2.1 := by omega
     have et4 : ((o : Int) + 2 + (I.2.1 : Int) + 4).toNat - (o + 2 + I.2.1) = 4 := by omega
     simp (disch := omega) only [go_sem, simprocAttr, he, hj, et, et4, hu]
     refine call_ro hfb rfl rfl ?_
     simp (disch := omega) only [go_sem, simprocAttr]
     refine call_ro had rfl rfl ?_
     generalize bigN u = x at *
     generalize adlV I.1 = y at *
     by_cases hxy : x = y
     ·rw [if_neg (by simpa using hxy)] at hR
      have hi : ((x : Nat) : Int) = (y : Int) := by omega
      simp (disch := omega) only [go_sem, simprocAttr, hi]
      exact hR.ro ⟨rfl, rfl⟩
     ·rw [if_pos hxy] at hR
      have hi : ¬ ((x : Nat) : Int) = (y : Int) := by omega
      simp (disch := omega) only [go_sem, simprocAttr, hi]
      exact hR.ro ⟨rfl, rfl⟩
   ·rw [if_pos he] at hR
    have hj : ¬ ((I.2.2 : Nat) : Int) = 0 := by omega
    simp (disch := omega) only [go_sem, simprocAttr, hj]
    exact hR.ro ⟨rfl, rfl⟩
set_option maxHeartbeats 1000000 in
theorem r6read_ok (s : Bs) (o most : Nat) (hs : s.length ≤ 1000000) (ho : o ≤ s.length) (hm : most ≤ 65536) : SpecR Tryz.prog 32 [.str s, .int .i64 o, .int .i64 most] (zV (zlibS (s.drop o) most)) := by
 refine Cod.r6read_spec (fun E R hN hR => ?_)
 unfold zlibS at hR
 have hdl : (s.drop o).length = s.length - o := List.length_drop
 rw [hdl] at hR
 by_cases h2 : s.length - o < 2
 ·rw [if_pos h2] at hR
  have hi : (s.length : Int) - (o : Int) < 2 := by omega
  simp (disch := omega) only [go_sem, simprocAttr, hi]
  (repeat (first | refine gskip_of ?_ | refine gcskip_of ?_ | refine gopen_of ?_) <;> simp (disch := omega) only [go_sem, simprocAttr, hi])
  exact hR.ro ⟨rfl, rfl⟩
 ·rw [if_neg h2] at hR
  have hi : ¬ (s.length : Int) - (o : Int) < 2 := by omega
  have gd : ∀ i, (s.drop o).getD i 0 = s.getD (o + i) 0 := fun i => by rw [List.getD_eq_getElem?_getD, List.getElem?_drop, ← List.getD_eq_getElem?_getD]
  rw [gd, gd, Nat.add_zero] at hR
  have hx1 := (s.getD o 0).toNat_lt
  have hx2 := (s.getD (o + 1) 0).toNat_lt
  have hh := r6head_ok (s.getD o 0).toNat (s.getD (o + 1) 0).toNat (s.getD o 0).toNat_lt (s.getD (o + 1) 0).toNat_lt
  by_cases hb : headB (s.getD o 0).toNat (s.getD (o + 1) 0).toNat = false
  ·rw [if_pos hb] at hR
   rw [hb] at hh
   simp (disch := omega) only [go_sem, simprocAttr, hi]
   (repeat (first | refine gskip_of ?_ | refine gcskip_of ?_ | refine gopen_of ?_) <;> simp (disch := omega) only [go_sem, simprocAttr, hi])
   refine call_ro hh rfl rfl ?_
   simp (disch := omega) only [go_sem, simprocAttr]
   exact hR.ro ⟨rfl, rfl⟩
  ·rw [if_neg hb] at hR
   rw [show headB (s.getD o 0).toNat (s.getD (o + 1) 0).toNat = true by simpa using hb] at hh
   have hinf := r5inflate_ok s (o + 2) most (by omega) (by rw [List.length_drop]; omega) (by omega) hm
   have hil := inf_len (s.drop (o + 2)) most
   rw [List.drop_drop] at hR
   generalize inflS (s.drop (o + 2)) most = I at *
   rw [List.length_drop] at hil
   simp (disch := omega) only [go_sem, simprocAttr, hi]
   (repeat (first | refine gskip_of ?_ | refine gcskip_of ?_ | refine gopen_of ?_) <;> simp (disch := omega) only [go_sem, simprocAttr, hi])
   refine call_ro hh rfl rfl ?_
   simp (disch := omega) only [go_sem, simprocAttr]
   refine call_ro hinf rfl rfl ?_
   by_cases he : I.2.2 = 0
   ·rw [if_neg (by simpa using he)] at hR
    have hdr : (s.drop (o + 2 + I.2.1)).length = s.length - (o + 2 + I.2.1) := List.length_drop
    have et : ((o : Int) + 2 + (I.2.1 : Int)).toNat = o + 2 + I.2.1 := by omega
    rw [List.drop_drop] at hR
    have e1 : o + (2 + I.2.1) = o + 2 + I.2.1 := by omega
    rw [e1] at hR
    generalize hrr : s.drop (o + 2 + I.2.1) = rr at *
    by_cases h4 : s.length - o - (2 + I.2.1) < 4
    ·rw [if_pos h4] at hR
     simp (disch := omega) only [go_sem, simprocAttr, he, et, hrr]
     exact hR.ro ⟨rfl, rfl⟩
    ·rw [if_neg h4] at hR
     generalize hu : rr.take 4 = u at *
     have hul : u.length = 4 := by rw [← hu, List.length_take]; omega
     have had := radler_ok I.1 (by omega)
     have hal := adlV_lt I.1
     have hbg := rbig_ok (adlV I.1) 4 (by omega) (by omega)
     have hbf := big_four u hul (adlV I.1) hal
     simp (disch := omega) only [go_sem, simprocAttr, he, et, hrr]
     refine call_ro had rfl rfl ?_
     simp (disch := omega) only [go_sem, simprocAttr]
     refine call_ro hbg rfl rfl ?_
     generalize bigN u = x at *
     by_cases hxy : x = adlV I.1
     ·rw [if_neg (by simpa using hxy)] at hR
      have hi := hbf.1 hxy
      simp (disch := omega) only [go_sem, simprocAttr, hu, hi]
      exact hR.ro ⟨rfl, rfl⟩
     ·rw [if_pos hxy] at hR
      have hi : ¬ u = (litB (adlV I.1) 4).reverse := fun h => hxy (hbf.2 h)
      simp (disch := omega) only [go_sem, simprocAttr, hu, hi]
      exact hR.ro ⟨rfl, rfl⟩
   ·rw [if_pos he] at hR
    have hj : ¬ ((I.2.2 : Nat) : Int) = 0 := by omega
    simp (disch := omega) only [go_sem, simprocAttr, hj]
    exact hR.ro ⟨rfl, rfl⟩
end Go.Proofs.YtjoefngnjoofeaaGreatDoor.Pk
