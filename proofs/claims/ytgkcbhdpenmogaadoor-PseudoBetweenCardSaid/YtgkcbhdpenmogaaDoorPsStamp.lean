/- Pseudo: the second of fourteen digits, at the program (a closure over an array) and at the document. -/
import Derived.Test.YtgkcbhdpenmogaaDoorPsHex
set_option linter.all false
namespace Go.Proofs.YtgkcbhdpenmogaaDoor.Ps
open Eng Sv
set_option maxRecDepth 10000
def dg (s : Bs) (k : Nat) : Int := ((s.getD k 0).toNat : Int) - 48
theorem cell_at (a : List Int) (i : Nat) (h : i < a.length) : (List.drop (i * 1) (a.map (AV.int .i64))).getD 0 AV.undef = AV.int .i64 (a.getD i 0) := by
  rw [Nat.mul_one, List.getD_eq_getElem?_getD, List.getElem?_drop, Nat.add_zero, List.getElem?_map, List.getElem?_eq_getElem h]
  simp [h]
theorem pair_ok (a : List Int) (hl : a.length = 14) (i : Nat) (hi : i + 1 < 14) (hr : ∀ j, 0 ≤ a.getD j 0 ∧ a.getD j 0 ≤ 9) :
    Eng.Spec Tryd.prog 41 [(79004, .var (a.map (.int .i64)))] [.int .i64 (i : Int), .vptr 79004 0] (fun h x ar => h = [(79004, .var (a.map (.int .i64)))] ∧ x = .int .i64 (10 * a.getD i 0 + a.getD (i + 1) 0) ∧ ar = [.int .i64 (i : Int), .vptr 79004 0]) := by
  refine Cod.pair_spec (fun E R hN hR => ?_)
  have r1 := hr i
  have r2 := hr (i + 1)
  have e1 : ((i : Int) + 1).toNat = i + 1 := by omega
  have g1 := cell_at a i (by omega)
  have g2 := cell_at a (i + 1) (by omega)
  simp (disch := first | omega | (simp only [Lx]; omega)) only [go_sem, simprocAttr, e1, g1, g2]
  exact hR.wk rfl (.le (by simp (disch := first | omega | (simp only [Lx]; omega)) only [go_sem, simprocAttr])) ⟨rfl, rfl, rfl⟩
/-- the fourteen places of an array of which k are laid -/
def arrK (s : Bs) (k : Nat) : List Int := (List.range 14).map fun j => if j < k then dg s j else 0
theorem arrK_len (s : Bs) (k : Nat) : (arrK s k).length = 14 := by simp [arrK]
theorem arrK_set (s : Bs) (k : Nat) (hk : k < 14) : ((arrK s k).map (AV.int .i64)).set k (.int .i64 (dg s k)) = (arrK s (k + 1)).map (AV.int .i64) := by
  rw [← List.map_set]
  congr 1
  apply List.ext_getElem
  · simp [arrK]
  · intro j h1 h2
    have g : ∀ m (h : j < (arrK s m).length), (arrK s m)[j] = if j < m then dg s j else 0 := by
      intro m h
      simp [arrK]
    rw [List.getElem_set, g (k + 1) h2]
    by_cases hj : k = j
    · subst hj
      rw [if_pos rfl, if_pos (by omega)]
    · rw [if_neg hj, g k (by rw [arrK_len]; rw [arrK_len] at h2; exact h2)]
      by_cases h : j < k
      · rw [if_pos h, if_pos (by omega)]
      · rw [if_neg h, if_neg (by omega)]
def yr (s : Bs) : Int := 100 * (10 * dg s 0 + dg s 1) + (10 * dg s 2 + dg s 3)
def two2 (s : Bs) (k : Nat) : Int := 10 * dg s k + dg s (k + 1)
def stOK (s : Bs) : Bool := okD (yr s) (two2 s 4) (two2 s 6) (two2 s 8) (two2 s 10) (two2 s 12)
def stU (s : Bs) : Int := unixI (yr s) (two2 s 4) (two2 s 6) (two2 s 8) (two2 s 10) (two2 s 12)
def secondP (s : Bs) : Option Int := if s.length = 14 ∧ digB s = true then (if stOK s = true then some (stU s) else none) else none
def unstE (s : Bs) : Int := if s.length = 14 ∧ digB s = true then (if stOK s = true then 0 else 1) else 3
theorem dg_in {s : Bs} {k : Nat} (h : isD (s.getD k 0) = true) : 0 ≤ dg s k ∧ dg s k ≤ 9 := by
  unfold isD at h
  simp only [decide_eq_true_eq] at h
  unfold dg
  omega
theorem digB_all {s : Bs} (h : digB s = true) {k : Nat} (hk : k < s.length) : isD (s.getD k 0) = true := by
  cases hd : isD (s.getD k 0) with
  | true => rfl
  | false => rw [digB_take hk hd] at h; cases h
theorem digB_mk {s : Bs} (h0 : 0 < s.length) (h : ∀ j, j < s.length → isD (s.getD j 0) = true) : digB s = true := by
  unfold digB
  have h1 : s.isEmpty = false := by cases s <;> simp_all
  rw [h1]
  simp only [Bool.not_false, Bool.true_and, List.all_eq_true]
  intro x hx
  obtain ⟨j, hj, rfl⟩ := List.mem_iff_getElem.1 hx
  have := h j hj
  simpa [hj] using this
theorem dtB_st {s : Bs} (h : ∀ j, j < 14 → isD (s.getD j 0) = true) : DtB (yr s) (two2 s 4) (two2 s 6) (two2 s 8) (two2 s 10) (two2 s 12) := by
  have d : ∀ j, j < 14 → 0 ≤ dg s j ∧ dg s j ≤ 9 := fun j hj => dg_in (h j hj)
  have d0 := d 0 (by omega); have d1 := d 1 (by omega); have d2 := d 2 (by omega); have d3 := d 3 (by omega)
  have d4 := d 4 (by omega); have d5 := d 5 (by omega); have d6 := d 6 (by omega); have d7 := d 7 (by omega)
  have d8 := d 8 (by omega); have d9 := d 9 (by omega); have d10 := d 10 (by omega); have d11 := d 11 (by omega)
  have d12 := d 12 (by omega); have d13 := d 13 (by omega)
  unfold yr two2
  simp only [Nat.reduceAdd]
  constructor <;> omega
theorem unstamp_ok (s : Bs) (hs : s.length ≤ 1000000) : SpecR Tryd.prog 18 [.str s] (.tup [.int .i64 ((secondP s).getD 0), .int .i64 (unstE s)]) := by
  refine Cod.unstamp_spec (fun E R hN hR => ?_)
  by_cases hl : s.length = 14
  · simp (disch := first | omega | (simp only [Lx]; omega)) only [go_sem, simprocAttr, hl]
    refine vcW_loop hN (fun k : Nat => ⟨[(0, .str s), (4, .vptr 79004 0), (10, .int .i64 k)], [(79004, .var ((arrK s k).map (.int .i64)))]⟩) (fun k => k ≤ 14 ∧ ∀ j, j < k → isD (s.getD j 0) = true) (fun k => 14 - k) 0 (.le (by simp (disch := first | omega | (simp only [Lx]; omega)) only [go_sem, simprocAttr]; rfl)) ⟨by omega, fun j h => by omega⟩ ?_
    rintro k R1 ⟨hk, hall⟩ hR1
    have hx := (s.getD k 0).toNat_lt
    by_cases hlt : k < 14
    · have bad : isD (s.getD k 0) = false → ∀ h0, R h0 (.tup [.int .i64 0, .int .i64 3]) [.undef] := fun h h0 => hR.wk (h' := []) (r' := .tup [.int .i64 0, .int .i64 3]) (ar' := [.undef]) rfl (.le (by simp (disch := first | omega | (simp only [Lx]; omega)) only [go_sem, simprocAttr])) ⟨rfl, by
        have hd := digB_take (show k < s.length by omega) h
        unfold secondP unstE
        rw [if_neg (by rw [hd]; simp), if_neg (by rw [hd]; simp)]; rfl⟩
      have hst : List.take (k * 1) ((arrK s k).map (AV.int .i64)) ++ [.int .i64 (dg s k)] ++ List.drop (k * 1 + 1) ((arrK s k).map (AV.int .i64)) = (arrK s (k + 1)).map (AV.int .i64) := by
        rw [← arrK_set s k hlt, List.set_eq_take_append_cons_drop, if_pos (by simp [arrK_len]; omega), Nat.mul_one]
        simp
      have hlen := arrK_len s k
      have hnx : isD (s.getD k 0) = true → ∀ st', Wk st' ⟨[(0, .str s), (4, .vptr 79004 0), (10, .int .i64 ((k : Int) + 1))], [(79004, .var (List.take (k * 1) ((arrK s k).map (AV.int .i64)) ++ [.int .i64 (dg s k)] ++ List.drop (k * 1 + 1) ((arrK s k).map (AV.int .i64))))]⟩ → R1.ap st' := by
        intro hd st' hw
        rw [hst] at hw
        exact hR1 (k + 1) st' (by omega) ⟨by omega, fun j hj => by
          by_cases hjk : j = k
          · rw [hjk]; exact hd
          · exact hall j (by omega)⟩ (by simpa using hw)
      unfold dg at hnx
      unfold isD at bad hnx
      generalize hg : s.getD k 0 = c at *
      by_cases h1 : 48 ≤ c.toNat
      · by_cases h2 : c.toNat ≤ 57
        · have hnx := hnx (by simp [h1, h2])
          simp (disch := first | omega | (simp only [Lx]; omega)) only [go_sem, simprocAttr, hg]
          (repeat (first | (with_reducible refine gskip_of ?_) | (with_reducible refine gcskip_of ?_) | (with_reducible refine gopen_of ?_)) <;> simp (disch := first | omega | (simp only [Lx]; omega)) only [go_sem, simprocAttr, hg])
          exact hnx _ (.le (by simp (disch := first | omega | (simp only [Lx]; omega)) only [go_sem, simprocAttr]))
        · have bad := bad (by simp [h2])
          simp (disch := first | omega | (simp only [Lx]; omega)) only [go_sem, simprocAttr, hg]
          (repeat (first | (with_reducible refine gskip_of ?_) | (with_reducible refine gcskip_of ?_) | (with_reducible refine gopen_of ?_)) <;> simp (disch := first | omega | (simp only [Lx]; omega)) only [go_sem, simprocAttr, hg])
          exact bad _
      · have bad := bad (by simp [h1])
        simp (disch := first | omega | (simp only [Lx]; omega)) only [go_sem, simprocAttr, hg]
        (repeat (first | (with_reducible refine gskip_of ?_) | (with_reducible refine gcskip_of ?_) | (with_reducible refine gopen_of ?_)) <;> simp (disch := first | omega | (simp only [Lx]; omega)) only [go_sem, simprocAttr, hg])
        exact bad _
    · obtain rfl : k = 14 := by omega
      have hdig : digB s = true := digB_mk (by omega) (fun j hj => hall j (by omega))
      have hal := arrK_len s 14
      have hag : ∀ j, j < 14 → (arrK s 14).getD j 0 = dg s j := by
        intro j hj
        unfold arrK
        rw [List.getD_eq_getElem?_getD, List.getElem?_map, List.getElem?_range hj]
        simp [hj]
      have hdt := dtB_st hall
      have hrng : ∀ j, 0 ≤ (arrK s 14).getD j 0 ∧ (arrK s 14).getD j 0 ≤ 9 := by
        intro j
        by_cases hj : j < 14
        · rw [hag j hj]; exact dg_in (hall j hj)
        · rw [List.getD_eq_getElem?_getD, List.getElem?_eq_none (by rw [hal]; omega)]; simp
      have hp : ∀ i : Nat, i + 1 < 14 → Eng.Spec Tryd.prog 41 [(79004, .var ((arrK s 14).map (.int .i64)))] [.int .i64 (i : Int), .vptr 79004 0] (fun h x ar => h = [(79004, .var ((arrK s 14).map (.int .i64)))] ∧ x = .int .i64 (10 * dg s i + dg s (i + 1)) ∧ ar = [.int .i64 (i : Int), .vptr 79004 0]) := by
        intro i hi
        have := pair_ok (arrK s 14) hal i hi hrng
        rw [hag i (by omega), hag (i + 1) hi] at this
        exact this
      have hq : ∀ (i : Nat) (n : Int), (i : Int) = n → i + 1 < 14 → Eng.Spec Tryd.prog 41 [(79004, .var ((arrK s 14).map (.int .i64)))] [.int .i64 n, .vptr 79004 0] (fun h x ar => h = [(79004, .var ((arrK s 14).map (.int .i64)))] ∧ x = .int .i64 (two2 s i) ∧ ar = [.int .i64 n, .vptr 79004 0]) := by
        rintro i n rfl hi
        exact hp i hi
      have p0 := hq 0 0 rfl (by omega)
      have p2 := hq 2 2 rfl (by omega)
      have p4 := hq 4 4 rfl (by omega)
      have p6 := hq 6 6 rfl (by omega)
      have p8 := hq 8 8 rfl (by omega)
      have p10 := hq 10 10 rfl (by omega)
      have p12 := hq 12 12 rfl (by omega)
      have hyr : 100 * two2 s 0 + two2 s 2 = yr s := rfl
      have y0 := hdt.y0
      have y1 := hdt.y1
      have t0 : 0 ≤ two2 s 0 ∧ two2 s 0 ≤ 99 ∧ 0 ≤ two2 s 2 ∧ two2 s 2 ≤ 99 := by
        have d : ∀ j, j < 14 → 0 ≤ dg s j ∧ dg s j ≤ 9 := fun j hj => dg_in (hall j hj)
        have d0 := d 0 (by omega); have d1 := d 1 (by omega); have d2 := d 2 (by omega); have d3 := d 3 (by omega)
        unfold two2
        simp only [Nat.reduceAdd]
        omega
      have hun : SpecR Tryd.prog 42 [.agg [.int .i64 (yr s), .int .i64 (two2 s 4), .int .i64 (two2 s 6), .int .i64 (two2 s 8), .int .i64 (two2 s 10), .int .i64 (two2 s 12), .int .i64 0]] (.tup [.int .i64 (if stOK s = true then stU s else 0), .int .i64 (if stOK s = true then 0 else 1)]) := cunix_ok _ _ _ _ _ _ hdt
      have hsec : secondP s = if stOK s = true then some (stU s) else none := by unfold secondP; rw [if_pos ⟨hl, hdig⟩]
      have hste : unstE s = if stOK s = true then 0 else 1 := by unfold unstE; rw [if_pos ⟨hl, hdig⟩]
      rw [hsec, hste] at hR
      generalize arrK s 14 = a at *
      have hin : inH [(79004, .var (a.map (.int .i64)))] [(79004, .var (a.map (.int .i64)))] = true := by simp [inH, inW, inC]
      simp (disch := first | omega | (simp only [Lx]; omega)) only [go_sem, simprocAttr]
      refine dyn_clo (bargs := [.c (.int .i64 0), .c (.vptr 79004 0)]) (bs := [.int .i64 0, .vptr 79004 0]) (by kernel_rfl) rfl rfl ?_
      refine call_win [(79004, .var (a.map (.int .i64)))] p0 (by simp (disch := first | omega | (simp only [Lx]; omega)) only [go_sem, simprocAttr]) nofun ?_
      rintro h' v as' ⟨rfl, rfl, rfl⟩
      refine ⟨hin, rfl, ?_⟩
      simp (disch := first | omega | (simp only [Lx]; omega)) only [go_sem, simprocAttr]
      refine dyn_clo (bargs := [.c (.int .i64 2), .c (.vptr 79004 0)]) (bs := [.int .i64 2, .vptr 79004 0]) (by kernel_rfl) rfl rfl ?_
      refine call_win [(79004, .var (a.map (.int .i64)))] p2 (by simp (disch := first | omega | (simp only [Lx]; omega)) only [go_sem, simprocAttr]) nofun ?_
      rintro h' v as' ⟨rfl, rfl, rfl⟩
      refine ⟨hin, rfl, ?_⟩
      simp (disch := first | omega | (simp only [Lx]; omega)) only [go_sem, simprocAttr]
      refine dyn_clo (bargs := [.c (.int .i64 4), .c (.vptr 79004 0)]) (bs := [.int .i64 4, .vptr 79004 0]) (by kernel_rfl) rfl rfl ?_
      refine call_win [(79004, .var (a.map (.int .i64)))] p4 (by simp (disch := first | omega | (simp only [Lx]; omega)) only [go_sem, simprocAttr]) nofun ?_
      rintro h' v as' ⟨rfl, rfl, rfl⟩
      refine ⟨hin, rfl, ?_⟩
      simp (disch := first | omega | (simp only [Lx]; omega)) only [go_sem, simprocAttr]
      refine dyn_clo (bargs := [.c (.int .i64 6), .c (.vptr 79004 0)]) (bs := [.int .i64 6, .vptr 79004 0]) (by kernel_rfl) rfl rfl ?_
      refine call_win [(79004, .var (a.map (.int .i64)))] p6 (by simp (disch := first | omega | (simp only [Lx]; omega)) only [go_sem, simprocAttr]) nofun ?_
      rintro h' v as' ⟨rfl, rfl, rfl⟩
      refine ⟨hin, rfl, ?_⟩
      simp (disch := first | omega | (simp only [Lx]; omega)) only [go_sem, simprocAttr]
      refine dyn_clo (bargs := [.c (.int .i64 8), .c (.vptr 79004 0)]) (bs := [.int .i64 8, .vptr 79004 0]) (by kernel_rfl) rfl rfl ?_
      refine call_win [(79004, .var (a.map (.int .i64)))] p8 (by simp (disch := first | omega | (simp only [Lx]; omega)) only [go_sem, simprocAttr]) nofun ?_
      rintro h' v as' ⟨rfl, rfl, rfl⟩
      refine ⟨hin, rfl, ?_⟩
      simp (disch := first | omega | (simp only [Lx]; omega)) only [go_sem, simprocAttr]
      refine dyn_clo (bargs := [.c (.int .i64 10), .c (.vptr 79004 0)]) (bs := [.int .i64 10, .vptr 79004 0]) (by kernel_rfl) rfl rfl ?_
      refine call_win [(79004, .var (a.map (.int .i64)))] p10 (by simp (disch := first | omega | (simp only [Lx]; omega)) only [go_sem, simprocAttr]) nofun ?_
      rintro h' v as' ⟨rfl, rfl, rfl⟩
      refine ⟨hin, rfl, ?_⟩
      simp (disch := first | omega | (simp only [Lx]; omega)) only [go_sem, simprocAttr]
      refine dyn_clo (bargs := [.c (.int .i64 12), .c (.vptr 79004 0)]) (bs := [.int .i64 12, .vptr 79004 0]) (by kernel_rfl) rfl rfl ?_
      refine call_win [(79004, .var (a.map (.int .i64)))] p12 (by simp (disch := first | omega | (simp only [Lx]; omega)) only [go_sem, simprocAttr]) nofun ?_
      rintro h' v as' ⟨rfl, rfl, rfl⟩
      refine ⟨hin, rfl, ?_⟩
      simp (disch := first | omega | (simp only [Lx]; omega)) only [go_sem, simprocAttr]
      rw [hyr]
      refine call_ro hun rfl rfl ?_
      cases h : stOK s with
      | true =>
        rw [h] at hR
        simp (disch := first | omega | (simp only [Lx]; omega)) only [go_sem, simprocAttr]
        exact hR.ro ⟨rfl, rfl⟩
      | false =>
        rw [h] at hR
        simp (disch := first | omega | (simp only [Lx]; omega)) only [go_sem, simprocAttr]
        exact hR.ro ⟨rfl, rfl⟩
  · unfold secondP unstE at hR
    rw [if_neg (fun h => hl h.1), if_neg (fun h => hl h.1)] at hR
    simp (disch := first | omega | (simp only [Lx]; omega)) only [go_sem, simprocAttr, hl]
    exact hR.ro ⟨rfl, rfl⟩
/- THE DOCUMENT's -/
def vK (s : Bs) : Nat → List Int
  | 0 => [0, 0, 0, 0, 0, 0]
  | i + 1 => (vK s i).set (i / 2 - 1) (10 * (vK s i).getD (i / 2 - 1) 0 + dg s i)
theorem vK_len (s : Bs) : ∀ i, (vK s i).length = 6
  | 0 => rfl
  | i + 1 => by rw [vK, List.length_set, vK_len s i]
theorem vK_rng {s : Bs} : ∀ i, (∀ j, j < i → 0 ≤ dg s j ∧ dg s j ≤ 9) → ∀ j, 0 ≤ (vK s i).getD j 0 ∧ (vK s i).getD j 0 + 1 ≤ (10 : Int) ^ i
  | 0, _, j => by
    have : (vK s 0).getD j 0 = 0 := by
      unfold vK
      rcases j with _ | _ | _ | _ | _ | _ | j <;> rfl
    rw [this]; decide
  | i + 1, h, j => by
    have h1 := vK_rng i (fun j hj => h j (by omega)) j
    have h2 := vK_rng i (fun j hj => h j (by omega)) (i / 2 - 1)
    have h3 := h i (by omega)
    rw [vK, Int.pow_succ]
    generalize hp : (10 : Int) ^ i = p at *
    rw [List.getD_eq_getElem?_getD, List.getElem?_set]
    by_cases hj : i / 2 - 1 = j
    · rw [if_pos hj]
      split
      · simp only [Option.getD_some]; omega
      · simp only [Option.getD_none]; omega
    · rw [if_neg hj, ← List.getD_eq_getElem?_getD]; omega
theorem vK_end (s : Bs) : vK s 14 = [yr s, two2 s 4, two2 s 6, two2 s 8, two2 s 10, two2 s 12] := by
  simp only [vK]
  simp [yr, two2]
  omega
theorem rdigits_dg {s : Bs} (h : digB s = true) (hl : s.length = 14) : ∀ j, j < 14 → 0 ≤ dg s j ∧ dg s j ≤ 9 := fun j hj => dg_in (digB_all h (by omega))
theorem second_ok (s : Bs) (hs : s.length ≤ 1000000) : SpecR Tryd.prog 23 [.str s] (.tup [.int .i64 ((secondP s).getD 0), .bool (secondP s).isSome]) := by
  refine Cod.second_spec (fun E R hN hR => ?_)
  have hd := rdigits_ok s (by omega)
  by_cases hl : s.length = 14
  · cases hdig : digB s with
    | false =>
      have : secondP s = none := by unfold secondP; rw [if_neg (fun h => by rw [hdig] at h; exact absurd h.2 (by decide))]
      rw [this] at hR
      rw [hdig] at hd
      simp (disch := first | omega | (simp only [Lx]; omega)) only [go_sem, simprocAttr, hl]
      (repeat (first | (with_reducible refine gskip_of ?_) | (with_reducible refine gcskip_of ?_) | (with_reducible refine gopen_of ?_)) <;> simp (disch := first | omega | (simp only [Lx]; omega)) only [go_sem, simprocAttr, hl])
      refine gcyes_of (callT_ro (by simp (disch := first | omega | (simp only [Lx]; omega)) only [go_sem, simprocAttr]) hd (by simp (disch := first | omega | (simp only [Lx]; omega)) only [go_sem, simprocAttr]) rfl rfl ?_)
      simp (disch := first | omega | (simp only [Lx]; omega)) only [go_sem, simprocAttr]
      exact hR.ro ⟨rfl, rfl⟩
    | true =>
      have hsec : secondP s = if stOK s = true then some (stU s) else none := by unfold secondP; rw [if_pos ⟨hl, hdig⟩]
      rw [hsec] at hR
      rw [hdig] at hd
      have hall : ∀ j, j < 14 → isD (s.getD j 0) = true := fun j hj => digB_all hdig (by omega)
      have hdt := dtB_st hall
      have hun : SpecR Tryd.prog 46 [.ro 1 [.int .i64 (yr s), .int .i64 (two2 s 4), .int .i64 (two2 s 6), .int .i64 (two2 s 8), .int .i64 (two2 s 10), .int .i64 (two2 s 12)]] (.tup [.int .i64 (if stOK s = true then stU s else 0), .bool (stOK s)]) := runix_ok _ _ _ _ _ _ hdt
      simp (disch := first | omega | (simp only [Lx]; omega)) only [go_sem, simprocAttr, hl]
      (repeat (first | (with_reducible refine gskip_of ?_) | (with_reducible refine gcskip_of ?_) | (with_reducible refine gopen_of ?_)) <;> simp (disch := first | omega | (simp only [Lx]; omega)) only [go_sem, simprocAttr, hl])
      refine gcyes_of (callT_ro (by simp (disch := first | omega | (simp only [Lx]; omega)) only [go_sem, simprocAttr]) hd (by simp (disch := first | omega | (simp only [Lx]; omega)) only [go_sem, simprocAttr]) rfl rfl ?_)
      simp (disch := first | omega | (simp only [Lx]; omega)) only [go_sem, simprocAttr]
      refine vcW_loop hN (fun i : Nat => ⟨[(0, .str s), (4, .sl 69015 0 6), (5, .int .i64 i)], [(69015, .arr 1 ((vK s i).map (.int .i64)))]⟩) (fun i => i ≤ 14) (fun i => 14 - i) 0 (.le (by simp (disch := first | omega | (simp only [Lx]; omega)) only [go_sem, simprocAttr]; rfl)) (by omega) ?_
      rintro i R1 hi hR1
      by_cases hlt : i < 14
      · have hnx := fun st' => hR1 (i + 1) st' (by omega) (by omega)
        rw [vK] at hnx
        have hvl := vK_len s i
        have hvr := vK_rng (s := s) i (fun j hj => rdigits_dg hdig hl j (by omega)) (i / 2 - 1)
        have hp : (10 : Int) ^ i ≤ 100000000000000 := by
          have : (10 : Nat) ^ i ≤ 10 ^ 14 := Nat.pow_le_pow_right (by decide) (by omega)
          have e : ((10 ^ i : Nat) : Int) = (10 : Int) ^ i := by simp
          omega
        have eM : max 0 ((i : Int) / 2 - 1) = ((i / 2 - 1 : Nat) : Int) := by omega
        have hk6 : i / 2 - 1 < 6 := by omega
        have hdgi := hall i hlt
        unfold isD at hdgi
        simp only [decide_eq_true_eq] at hdgi
        unfold dg at hnx
        generalize i / 2 - 1 = k at *
        generalize vK s i = V at *
        generalize hg : s.getD i 0 = c at *
        have hc := c.toNat_lt
        simp (disch := first | omega | (simp only [Lx]; omega)) only [go_sem, simprocAttr, eM, hg]
        exact hnx _ (.le (by simp (disch := first | omega | (simp only [Lx]; omega)) only [go_sem, simprocAttr]))
      · obtain rfl : i = 14 := by omega
        rw [vK_end]
        simp (disch := first | omega | (simp only [Lx]; omega)) only [go_sem, simprocAttr]
        refine call_flat (by simp (disch := first | omega | (simp only [Lx]; omega)) only [go_sem, simprocAttr]) hun rfl ?_
        cases h : stOK s with
        | true =>
          rw [h] at hR
          simp (disch := first | omega | (simp only [Lx]; omega)) only [go_sem, simprocAttr]
          exact hR.ro ⟨rfl, rfl⟩
        | false =>
          rw [h] at hR
          simp (disch := first | omega | (simp only [Lx]; omega)) only [go_sem, simprocAttr]
          exact hR.ro ⟨rfl, rfl⟩
  · have : secondP s = none := by unfold secondP; rw [if_neg (fun h => hl h.1)]
    rw [this] at hR
    simp (disch := first | omega | (simp only [Lx]; omega)) only [go_sem, simprocAttr, hl]
    (repeat (first | (with_reducible refine gskip_of ?_) | (with_reducible refine gcskip_of ?_) | (with_reducible refine gopen_of ?_)) <;> simp (disch := first | omega | (simp only [Lx]; omega)) only [go_sem, simprocAttr, hl])
    exact hR.ro ⟨rfl, rfl⟩
end Go.Proofs.YtgkcbhdpenmogaaDoor.Ps
