/- The engine, part B: operations with types resolved; what they come to on abstract values. -/
import Derived.Test.YtgkcbhdpenmogaaDoorEngA
set_option linter.all false
namespace Go.Proofs.YtgkcbhdpenmogaaDoor.Eng

inductive AE where
  | t (n : Nat)
  | c (v : AV)
inductive AO where
  | mov (x : AE)
  | pick (c x y : AE)
  | bin (op : BinOp) (x y : AE)
  | beq (neg : Bool) (x y : AE)
  | aeq (neg : Bool) (ks : List Nat) (x y : AE)
  | un (op : UnOp) (x : AE)
  | cvi (k : IntKind) (x : AE)
  | cif (k : FloatKind) (x : AE)
  | cfi (k : IntKind) (x : AE)
  | cst (x : AE)
  | bts (x : AE)
  | stb (x : AE)
  | cplx (x y : AE)
  | re (x : AE)
  | im (x : AE)
  | len (str : Bool) (x : AE)
  | mm (mx : Bool) (x y : AE)
  | ext (x : AE) (i : Nat)
  | nilc (x : AE)
  | idxA (sz : Nat) (x i : AE)
  | sidx (x i : AE)
  | ld (ag : Bool) (n : Nat) (x : AE)
  | st (n : Nat) (x v : AE)
  | slcS (x : AE) (lo hi : Option AE)
  | slcA (sz : Nat) (x : AE) (lo hi : Option AE)
  | bsl (sz : Nat) (parts : List AE)
  | alloc (zero : List AV)
  | box (n : Nat) (x : AE)
  | bld (zero : List AV) (parts : List (Nat × Nat × AE))
  | fldA (ag : Bool) (off n : Nat) (x : AE)
  | fld (ag : Bool) (off n : Nat) (x : AE)
  | app (sz bytes : Nat) (s x : AE)
  | mks (sz bytes : Nat) (zero : List AV) (l c : AE)
  | cpy (sz : Nat) (d x : AE)
  | call (f : Nat) (args : List AE)
  | idxP (len sz : Nat) (x i : AE)
  | idxV (len : Nat) (x i : AE)
  | snil (neg : Bool) (x : AE)
  | inil (neg : Bool) (x : AE)
  | dyn (x : AE) (args : List AE)
  | mki (t : TypeId) (x : AE)
  | cvs (x : AE)
  | mkf (f : Nat) (xs : List AE)
  | pnc (x : AE)
  | bad

/- CONSTANTS, OPERANDS -/
def constC : Value → AV
  | .bool b => .bool b
  | .int k n => .int k n
  | .float k b => .fl k b
  | .complex k r i => .cx k r i
  | .string s => .str s.data.toList
  | .slice none 0 0 => .nilsl
  | .pointer none => .lit (.pointer none)
  | .nilFunc => .lit .nilFunc
  | .nilIface => .lit .nilIface
  | .map none => .lit (.map none)
  | _ => .undef
def constAV : Value → AV
  | .agg cs => .agg (cs.toList.map constC)
  | x => constC x
def trE : Operand → AE
  | .tmp t => if t < 2000000 then .t t else .c .undef
  | .const v => .c (constAV v)
  | .func f => .c (.lit (.func (.func f) #[] #[]))
  | .global _ => .c .undef
def ev (st : St) : AE → AV
  | .t k => (sget st.s k).getD .undef
  | .c v => v

section
variable {X : Nat → Prop} {w : World} {ρ : Loc}
theorem RV.constC (v : Value) : RV X w ρ v (constC v) := by
  unfold Eng.constC
  split
  · exact .bool _ _
  · exact .int _ _ _
  · exact .fl _ _ _
  · exact .cx _ _ _ _
  · rename_i s; have := RV.str (X := X) (w := w) ρ s.data.toList; simpa using this
  · exact .nilsl _
  · exact .lit _ _
  · exact .lit _ _
  · exact .lit _ _
  · exact .lit _ _
  · exact .undef _ _
theorem RV.constAV (v : Value) : RV X w ρ v (constAV v) := by
  unfold Eng.constAV
  split
  · rename_i cs
    refine .agg _ _ _ (by simp) (fun j v a h1 h2 => ?_)
    rw [List.getElem?_map, Array.getElem?_toList, h1] at h2
    simp at h2
    subst h2
    exact RV.constC v
  · exact RV.constC _
theorem evalRV {E : Env} {st : St} {a : Act} (h : RelAt E ρ st a w) (x : Operand) : RV (XX E.X0 ρ st.h) w ρ (a.eval x) (ev st (trE x)) := by
  cases x with
  | tmp t =>
    simp only [trE]
    split
    · rename_i ht
      show RV _ w ρ (a.tmps.getD t undef) ((sget st.s t).getD .undef)
      cases hs : sget st.s t with
      | none => exact .undef _ _
      | some av =>
        obtain ⟨h1, h2⟩ := h.slots t av hs
        have hlt : t < E.N := h1.resolve_right (Nat.not_le.2 ht)
        unfold sval at h2
        rw [if_pos hlt] at h2
        exact h2
    · exact .undef _ _
  | const v => exact RV.constAV v
  | func f => exact .lit _ _
  | global g => exact .undef _ _
end

/- GUARDS -/
def strip (γ : Bool) (v : AV) (K : AV → Prop) : Prop :=
  match v with
  | .gd b x => (γ = true → b = true) ∧ K x
  | v => K v
def evg (γ : Bool) (st : St) (x : AE) (K : AV → Prop) : Prop := strip γ (ev st x) K
theorem strip_sound {X : Nat → Prop} {w : World} {ρ : Loc} {γ : Bool} {v : Value} {av : AV} {K : AV → Prop} (h : RV X w ρ v av) (hs : strip γ av K) (hγ : γ = true) : ∃ av', RV X w ρ v av' ∧ K av' := by
  cases h with
  | gd _ b x v h h' => exact ⟨x, h (hs.1 hγ), hs.2⟩
  | undef _ v => exact ⟨_, .undef _ _, hs⟩
  | bool _ b => exact ⟨_, .bool _ _, hs⟩
  | int _ k n => exact ⟨_, .int _ _ _, hs⟩
  | fl _ k b => exact ⟨_, .fl _ _ _, hs⟩
  | cx _ k re im => exact ⟨_, .cx _ _ _ _, hs⟩
  | str _ s => exact ⟨_, .str _ _, hs⟩
  | lit _ x => exact ⟨_, .lit _ _, hs⟩
  | nilsl _ => exact ⟨_, .nilsl _, hs⟩
  | ro _ A c sz es vs hc hsz hlen hcell hrel => exact ⟨_, .ro _ _ _ _ _ vs hc hsz hlen hcell hrel, hs⟩
  | elt _ ad x vs hsp hlen hcell hrel => exact ⟨_, .elt _ _ _ vs hsp hlen hcell hrel, hs⟩
  | sl _ i off n c L' A hL h1 h2 h3 hA => exact ⟨_, .sl _ _ _ _ _ L' A hL h1 h2 h3 hA, hs⟩
  | ptr _ i j f L' b hL hb hi hf => exact ⟨_, .ptr _ _ _ _ L' b hL hb hi hf, hs⟩
  | vptr _ i f L' b hL hb => exact ⟨_, .vptr _ _ _ L' b hL hb, hs⟩
  | agg _ vs cs hlen hrel => exact ⟨_, .agg _ _ _ hlen hrel, hs⟩
  | tup _ vs cs hlen hrel => exact ⟨_, .tup _ _ _ hlen hrel, hs⟩
  | clo _ f vs cs hlen hrel => exact ⟨_, .clo _ _ _ _ hlen hrel, hs⟩
theorem evg_sound {E : Env} {ρ : Loc} {st : St} {a : Act} {w : World} (h : RelAt E ρ st a w) {γ : Bool} {x : Operand} {K : AV → Prop} (hx : evg γ st (trE x) K) (hγ : γ = true) :
    ∃ av, RV (XX E.X0 ρ st.h) w ρ (a.eval x) av ∧ K av := strip_sound (evalRV h x) hx hγ

/- ARITHMETIC -/
def intBin (γ : Bool) (op : BinOp) (k k' : IntKind) (x y : Int) (K : AV → Prop) : Prop :=
  match op with
  | .shl => (γ = true → 0 ≤ y) ∧ K (.int k (k.wrap (x * 2 ^ (min y.toNat k.bits))))
  | .shr => (γ = true → 0 ≤ y) ∧ K (.int k (x.fdiv (2 ^ (min y.toNat k.bits))))
  | .add => k = k' ∧ K (.int k (k.wrap (x + y)))
  | .sub => k = k' ∧ K (.int k (k.wrap (x - y)))
  | .mul => k = k' ∧ K (.int k (k.wrap (x * y)))
  | .quo => k = k' ∧ (γ = true → y ≠ 0) ∧ K (.int k (k.wrap (x.tdiv y)))
  | .rem => k = k' ∧ (γ = true → y ≠ 0) ∧ K (.int k (x.tmod y))
  | .and => k = k' ∧ K (.int k (bits .and k x y))
  | .or => k = k' ∧ K (.int k (bits .or k x y))
  | .xor => k = k' ∧ K (.int k (bits .xor k x y))
  | .andNot => k = k' ∧ K (.int k (bits .andNot k x y))
  | .eql => k = k' ∧ K (.bool (decide (x = y)))
  | .neq => k = k' ∧ K (.bool (!decide (x = y)))
  | .lss => k = k' ∧ K (.bool (decide (x < y)))
  | .leq => k = k' ∧ K (.bool (decide (x ≤ y)))
  | .gtr => k = k' ∧ K (.bool (decide (y < x)))
  | .geq => k = k' ∧ K (.bool (decide (y ≤ x)))
def strBin (γ : Bool) (op : BinOp) (x y : List UInt8) (K : AV → Prop) : Prop :=
  match op with
  | .add => (γ = true → x.length + y.length ≤ 9223372036854775807) ∧ K (.str (x ++ y))
  | .eql => K (.bool (x == y))
  | .neq => K (.bool (!(x == y)))
  | .lss => K (.bool (Op.bytesLess x y))
  | .leq => K (.bool (Op.bytesLess x y || x == y))
  | .gtr => K (.bool (!(Op.bytesLess x y || x == y)))
  | .geq => K (.bool (!Op.bytesLess x y))
  | _ => False
def flBin (op : BinOp) (k k' : FloatKind) (x y : Nat) (K : AV → Prop) : Prop :=
  k = k' ∧ match op with
  | .add => ∃ r, k.format.add x y = some r ∧ K (.fl k r)
  | .sub => ∃ r, k.format.sub x y = some r ∧ K (.fl k r)
  | .mul => ∃ r, k.format.mul x y = some r ∧ K (.fl k r)
  | .eql => K (.bool (k.format.order x y == some .eq))
  | .neq => K (.bool (k.format.order x y != some .eq))
  | .lss => K (.bool (k.format.order x y == some .lt))
  | .gtr => K (.bool (k.format.order x y == some .gt))
  | .leq => K (.bool (k.format.order x y == some .lt || k.format.order x y == some .eq))
  | .geq => K (.bool (k.format.order x y == some .gt || k.format.order x y == some .eq))
  | _ => False
def cxBin (op : BinOp) (k k' : FloatKind) (a b c d : Nat) (K : AV → Prop) : Prop :=
  k = k' ∧ match op with
  | .add => ∃ r i, k.format.add a c = some r ∧ k.format.add b d = some i ∧ K (.cx k r i)
  | .sub => ∃ r i, k.format.sub a c = some r ∧ k.format.sub b d = some i ∧ K (.cx k r i)
  | .eql => K (.bool (k.format.order a c == some .eq && k.format.order b d == some .eq))
  | .neq => K (.bool (!(k.format.order a c == some .eq && k.format.order b d == some .eq)))
  | _ => False
def abin (γ : Bool) (op : BinOp) (x y : AV) (K : AV → Prop) : Prop :=
  match x, y with
  | .int k a, .int k' b => intBin γ op k k' a b K
  | .str a, .str b => strBin γ op a b K
  | .fl k a, .fl k' b => flBin op k k' a b K
  | .cx k a b, .cx k' c d => cxBin op k k' a b c d K
  | _, _ => False

section
variable {P : Program} {X : Nat → Prop} {w : World} {ρ : Loc} {γ : Bool} {K : AV → Prop}
def Gives (P : Program) (X : Nat → Prop) (w : World) (ρ : Loc) (s : Sem Value) (K : AV → Prop) : Prop := ∃ v av, Runs P w s v ∧ RV X w ρ v av ∧ K av
theorem intBin_sound {op : BinOp} {k k' : IntKind} {x y : Int} {t : TypeId} (h : intBin γ op k k' x y K) (hγ : γ = true) : Gives P X w ρ (binOp op t (.int k x) (.int k' y)) K := by
  cases op <;> simp only [intBin] at h
  case shl => have h1 := h.1 hγ; exact ⟨.int k (k.wrap (x * 2 ^ (min y.toNat k.bits))), _, fun w' _ => by simp [binOp, Op.shift, Int.not_lt.2 h1], .int _ _ _, h.2⟩
  case shr => have h1 := h.1 hγ; exact ⟨.int k (x.fdiv (2 ^ (min y.toNat k.bits))), _, fun w' _ => by simp [binOp, Op.shift, Int.not_lt.2 h1], .int _ _ _, h.2⟩
  case quo => obtain ⟨rfl, h1, h2⟩ := h; have h1 := h1 hγ; exact ⟨.int k (k.wrap (x.tdiv y)), _, fun w' _ => by simp [binOp, Op.intDiv, h1], .int _ _ _, h2⟩
  case rem => obtain ⟨rfl, h1, h2⟩ := h; have h1 := h1 hγ; exact ⟨.int k (x.tmod y), _, fun w' _ => by simp [binOp, Op.intDiv, h1], .int _ _ _, h2⟩
  case eql => obtain ⟨rfl, h2⟩ := h; exact ⟨.bool (decide (x = y)), _, fun w' _ => by simp [binOp, Op.intCmp]; rfl, .bool _ _, h2⟩
  case neq => obtain ⟨rfl, h2⟩ := h; exact ⟨.bool (!decide (x = y)), _, fun w' _ => by simp [binOp, Op.intCmp]; rfl, .bool _ _, h2⟩
  case and => obtain ⟨rfl, h2⟩ := h; exact ⟨.int k (bits .and k x y), _, fun w' _ => by simp only [binOp, ne_eq, not_true_eq_false, if_false, intBits_and, Sem.run_pure], .int _ _ _, h2⟩
  case or => obtain ⟨rfl, h2⟩ := h; exact ⟨.int k (bits .or k x y), _, fun w' _ => by simp only [binOp, ne_eq, not_true_eq_false, if_false, intBits_or, Sem.run_pure], .int _ _ _, h2⟩
  case xor => obtain ⟨rfl, h2⟩ := h; exact ⟨.int k (bits .xor k x y), _, fun w' _ => by simp only [binOp, ne_eq, not_true_eq_false, if_false, intBits_xor, Sem.run_pure], .int _ _ _, h2⟩
  case andNot => obtain ⟨rfl, h2⟩ := h; exact ⟨.int k (bits .andNot k x y), _, fun w' _ => by simp only [binOp, ne_eq, not_true_eq_false, if_false, intBits_andNot, Sem.run_pure], .int _ _ _, h2⟩
  all_goals (obtain ⟨rfl, h2⟩ := h; exact ⟨_, _, fun w' _ => by simp [binOp, Op.intArith, Op.intCmp]; rfl, by first | exact .int _ _ _ | exact .bool _ _, h2⟩)
theorem ba_toList (x : List UInt8) : (⟨x.toArray⟩ : ByteArray).toList = x := by simp [ByteArray.toList_eq]
theorem ba_append (x y : List UInt8) : (⟨x.toArray⟩ : ByteArray) ++ ⟨y.toArray⟩ = ⟨(x ++ y).toArray⟩ := by
  apply ByteArray.ext
  simp [ByteArray.data_append]
theorem strBin_sound {op : BinOp} {x y : List UInt8} {t : TypeId} (h : strBin γ op x y K) (hγ : γ = true) : Gives P X w ρ (binOp op t (.string ⟨x.toArray⟩) (.string ⟨y.toArray⟩)) K := by
  cases op <;> simp only [strBin] at h
  case add =>
    have h1 := h.1 hγ
    refine ⟨.string ⟨(x ++ y).toArray⟩, _, fun w' _ => ?_, .str _ _, h.2⟩
    have : ¬ ((((⟨x.toArray⟩ : ByteArray).size + (⟨y.toArray⟩ : ByteArray).size : Nat) : Int) > IntKind.i64.max) := by simp [ByteArray.size]; omega
    simp only [binOp, Op.stringOp, if_neg this, Sem.run_pure, ba_append]
  all_goals first | exact False.elim h | (refine ⟨_, _, fun w' _ => ?_, .bool _ _, h⟩; simp [binOp, Op.stringOp, ba_toList])
theorem flBin_sound {op : BinOp} {k k' : FloatKind} {x y : Nat} {t : TypeId} (h : flBin op k k' x y K) : Gives P X w ρ (binOp op t (.float k x) (.float k' y)) K := by
  obtain ⟨rfl, h⟩ := h
  cases op <;> simp only at h
  case add => obtain ⟨r, h1, h2⟩ := h; exact ⟨.float k r, _, fun w' _ => by simp [binOp, Op.floatArith, h1], .fl _ _ _, h2⟩
  case sub => obtain ⟨r, h1, h2⟩ := h; exact ⟨.float k r, _, fun w' _ => by simp [binOp, Op.floatArith, h1], .fl _ _ _, h2⟩
  case mul => obtain ⟨r, h1, h2⟩ := h; exact ⟨.float k r, _, fun w' _ => by simp [binOp, Op.floatArith, h1], .fl _ _ _, h2⟩
  all_goals first | exact False.elim h | (refine ⟨_, _, fun w' _ => ?_, .bool _ _, h⟩; simp [binOp, Op.floatCmp])
theorem cxBin_sound {op : BinOp} {k k' : FloatKind} {a b c d : Nat} {t : TypeId} (h : cxBin op k k' a b c d K) : Gives P X w ρ (binOp op t (.complex k a b) (.complex k' c d)) K := by
  obtain ⟨rfl, h⟩ := h
  cases op <;> simp only at h
  case add => obtain ⟨r, i, h1, h2, h3⟩ := h; exact ⟨.complex k r i, _, fun w' _ => by simp [binOp, Op.complexOp, Op.Complex.arith, Op.floatArith, h1, h2], .cx _ _ _ _, h3⟩
  case sub => obtain ⟨r, i, h1, h2, h3⟩ := h; exact ⟨.complex k r i, _, fun w' _ => by simp [binOp, Op.complexOp, Op.Complex.arith, Op.floatArith, h1, h2], .cx _ _ _ _, h3⟩
  all_goals first | exact False.elim h | (refine ⟨_, _, fun w' _ => ?_, .bool _ _, h⟩; simp [binOp, Op.complexOp, Op.Complex.cmp, Op.floatCmp, asBool])
theorem abin_sound {op : BinOp} {v1 v2 : Value} {x y : AV} {t : TypeId} (h1 : RV X w ρ v1 x) (h2 : RV X w ρ v2 y) (h : abin γ op x y K) (hγ : γ = true) :
    Gives P X w ρ (binOp op t v1 v2) K ∧ ∀ x y, eqGuard op t x y v1 v2 = pure () := by
  cases h1 <;> cases h2 <;> simp only [abin] at h
  · exact ⟨intBin_sound h hγ, fun x y => eqGuard_at_int _ _ _ _ _ _ _⟩
  · exact ⟨flBin_sound h, fun x y => eqGuard_at_float _ _ _ _ _ _ _⟩
  · exact ⟨cxBin_sound h, fun x y => eqGuard_at_complex _ _ _ _ _ _ _ _⟩
  · exact ⟨strBin_sound h hγ, fun x y => eqGuard_at_string _ _ _ _ _ _⟩
end
end Go.Proofs.YtgkcbhdpenmogaaDoor.Eng
