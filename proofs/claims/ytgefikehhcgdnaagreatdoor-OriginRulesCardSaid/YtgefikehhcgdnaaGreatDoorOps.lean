/- The rules of the walk for the operations that make no slice. No condition. -/
import Derived.Test.YtgefikehhcgdnaaGreatDoorSL
import Derived.WalkKit
namespace Go.SL

abbrev str (l : List UInt8) : Value := .string ⟨l.toArray⟩
abbrev int (x : Int) : Value := .int .i64 x

def kno : IntKind → Nat
  | .i8 => 0 | .i16 => 1 | .i32 => 2 | .i64 => 3 | .u8 => 4 | .u16 => 5 | .u32 => 6 | .u64 => 7

theorem kno_inj {j k : IntKind} (h : Nat.beq (kno j) (kno k) = true) : j = k := by
  cases j <;> cases k <;> first | rfl | (simp [kno] at h)

def ibits (op : BinOp) (k : IntKind) (x y : Int) : Int :=
  let a := BitVec.ofInt k.bits x
  let b := BitVec.ofInt k.bits y
  match op with
  | .and => k.wrap (a &&& b).toNat
  | .or => k.wrap (a ||| b).toNat
  | .xor => k.wrap (a ^^^ b).toNat
  | .andNot => k.wrap (a &&& ~~~b).toNat
  | _ => 0

def intBin (op : BinOp) (k : IntKind) (a b : Int) : Option Value :=
  match op with
  | .add => some (.int k (k.wrap (a + b)))
  | .sub => some (.int k (k.wrap (a - b)))
  | .mul => some (.int k (k.wrap (a * b)))
  | .and => some (.int k (ibits .and k a b))
  | .or => some (.int k (ibits .or k a b))
  | .xor => some (.int k (ibits .xor k a b))
  | .andNot => some (.int k (ibits .andNot k a b))
  | .eql => some (.bool (decide (a = b)))
  | .neq => some (.bool (decide (a ≠ b)))
  | .lss => some (.bool (decide (a < b)))
  | .leq => some (.bool (decide (a ≤ b)))
  | .gtr => some (.bool (decide (b < a)))
  | .geq => some (.bool (decide (b ≤ a)))
  | _ => none

def strBin (op : BinOp) (a b : List UInt8) : Option Value :=
  match op with
  | .eql => some (.bool (decide (a = b)))
  | .neq => some (.bool (decide (a ≠ b)))
  | .lss => some (.bool (Op.bytesLess a b))
  | _ => none

def nth : List Value → Nat → Option Value
  | [], _ => none
  | v :: _, 0 => some v
  | _ :: r, k + 1 => nth r k

theorem nth_eq : ∀ (l : List Value) (k : Nat), nth l k = l[k]?
  | [], _ => by simp [nth]
  | v :: _, 0 => by simp [nth]
  | _ :: r, k + 1 => by simp [nth, nth_eq r k]

def p1 (ρ : Regs) : Op → Option Value
  | .move x | .assign x => ev ρ x
  | .pick c a b => match ev ρ c with
    | some (.bool true) => ev ρ a
    | some (.bool false) => ev ρ b
    | _ => none
  | .unOp .not _ x => match ev ρ x with
    | some (.bool b) => some (.bool (!b))
    | _ => none
  | .unOp .neg _ x => match ev ρ x with
    | some (.int k b) => some (.int k (k.wrap (0 - b)))
    | _ => none
  | .nilCheck x => match ev ρ x with
    | some (.pointer (some a)) => some (.pointer (some a))
    | some (.func (.func f) a b) => some (.func (.func f) a b)
    | _ => none
  | .makeFunc fn first capt => match evL ρ first.toList with
    | some l => match evL ρ capt.toList with
      | some m => some (.func fn l.toArray m.toArray)
      | none => none
    | none => none
  | .extract t i => match ev ρ t with
    | some (.tuple ⟨vs⟩) => nth vs i
    | _ => none
  | .binOp op _ x y _ => match ev ρ x with
    | some (.int k a) => match ev ρ y with
      | some (.int j b) => bif Nat.beq (kno k) (kno j) then intBin op k a b else none
      | _ => none
    | some (.string ⟨⟨a⟩⟩) => match ev ρ y with
      | some (.string ⟨⟨b⟩⟩) => strBin op a b
      | _ => none
    | _ => none
  | _ => none

section
variable {P : Program} {X : Cx} {n : Nat} {ρ : Regs} {F : FH} {Γ : Blks} {Q : Exit → Act → World → Prop} {ops : Array Oper} {rest : List Oper}

theorem intBin_run {op : BinOp} {t : TypeId} {x y : Operand} {k : IntKind} {a b : Int} {v : Value} (h : intBin op k a b = some v) (w : World) :
    (do eqGuard op t x y (.int k a) (.int k b); binOp op t (.int k a) (.int k b) : Sem Value).run P w = .ok v w := by
  have hg : (eqGuard op t x y (.int k a) (.int k b)).run P w = .ok () w := by
    unfold eqGuard; split <;> simp
  cases op <;> simp only [intBin, Option.some.injEq, reduceCtorEq] at h <;> subst h <;>
    simp [hg, binOp, Op.intArith, Op.intBits, Op.intCmp, ibits, bne, BEq.beq, instBEqOfDecidableEq]

theorem strBin_run {op : BinOp} {t : TypeId} {x y : Operand} {a b : List UInt8} {v : Value} (h : strBin op a b = some v) (w : World) :
    (do eqGuard op t x y (str a) (str b); binOp op t (str a) (str b) : Sem Value).run P w = .ok v w := by
  have hg : (eqGuard op t x y (str a) (str b)).run P w = .ok () w := by
    unfold eqGuard; split <;> simp
  have hb : (a == b) = decide (a = b) := by rw [Bool.eq_iff_iff]; simp
  cases op <;> simp only [strBin, Option.some.injEq, reduceCtorEq] at h <;> subst h <;>
    simp [hg, binOp, Op.stringOp, hb]

theorem p1_run {a : Act} {d : Option Tmp} {op : Op} {ty : TypeId} {pos : String} {af : Array Edge} {g : Option (Nat × Bool)} {v : Value}
    (ha : Agree n ρ a) (h : p1 ρ op = some v) (w : World) : (execOp a.eval ⟨d, op, ty, pos, af, g⟩).run P w = .ok (.value v) w := by
  cases op <;> simp only [p1, reduceCtorEq] at h
  case move x => simp [execOp, ha.eval h]
  case assign x => simp [execOp, ha.eval h]
  case pick c x y =>
    split at h
    · rename_i hc; simp [execOp, ha.eval hc, asBool, ha.eval h]
    · rename_i hc; simp [execOp, ha.eval hc, asBool, ha.eval h]
    · simp at h
  case unOp op t x =>
    cases op <;> simp only [p1, reduceCtorEq] at h
    · split at h
      · rename_i hx; simp at h; simp [execOp, ha.eval hx, Op.unary, Op.intArith, ← h]
      · simp at h
    · split at h
      · rename_i hx; simp at h; simp [execOp, ha.eval hx, Op.unary, ← h]
      · simp at h
  case nilCheck x =>
    split at h
    · rename_i hx; simp at h; simp [execOp, ha.eval hx, ← h]
    · rename_i hx; simp at h; simp [execOp, ha.eval hx, ← h]
    · simp at h
  case makeFunc fn fi ca =>
    split at h
    · rename_i l hl
      split at h
      · rename_i m hm
        simp at h
        have e1 : fi.map a.eval = l.toArray := by apply Array.ext'; simpa using ha.evalL hl
        have e2 : ca.map a.eval = m.toArray := by apply Array.ext'; simpa using ha.evalL hm
        simp [execOp, Instr.makeFunc, e1, e2, ← h]
      · simp at h
    · simp at h
  case extract t i =>
    split at h
    · rename_i vs hx
      rw [nth_eq] at h
      simp [execOp, ha.eval hx, Instr.extract, h]
    · simp at h
  case binOp op t x y u =>
    split at h
    · rename_i k p hx
      split at h
      · rename_i j q hy
        cases hb : Nat.beq (kno k) (kno j) with
        | false => rw [hb] at h; simp at h
        | true =>
          rw [hb] at h
          have := kno_inj hb
          subst this
          simp only [cond_true] at h
          have := intBin_run (P := P) (t := t) (x := x) (y := y) h w
          simp only [execOp, ha.eval hx, ha.eval hy]
          rw [Sem.run_bind, this]; rfl
      · simp at h
    · rename_i p hx
      split at h
      · rename_i q hy
        have h3 := strBin_run (P := P) (t := t) (x := x) (y := y) h w
        simp only [execOp, ha.eval hx, ha.eval hy]
        rw [Sem.run_bind]
        show Result.andThen (Sem.run P (do eqGuard op t x y (str p) (str q); binOp op t (str p) (str q) : Sem Value) w) _ = _
        rw [h3]; rfl
      · simp at h
    · simp at h

/-- What a value may hang on: the heap's known parts. -/
structure Hp (F : FH) (Γ : Blks) (w : World) : Prop where
  fr : ∀ b o, F b = some o → w.heap[b]? = some o
  own : ∀ p ∈ Γ, w.heap[p.1]? = some p.2

theorem Holds.hp {w : World} (h : Holds X F Γ w) : Hp F Γ w := ⟨h.fr, h.own⟩
theorem Hp.drawn {w : World} (h : Hp F Γ w) (k : Nat) : Hp F Γ { w with drawn := k } := ⟨h.fr, h.own⟩
theorem Hp.perm {w : World} {Δ : Blks} (h : Hp F Γ w) (hp : Γ.Perm Δ) : Hp F Δ w := ⟨h.fr, fun p hm => h.own p (hp.mem_iff.2 hm)⟩

/-- An operation yields a value and leaves the world as it is. -/
def Yl (P : Program) (n : Nat) (ρ : Regs) (F : FH) (Γ : Blks) (op : Op) (ty : TypeId) (v : Value) : Prop :=
  ∀ (d : Option Tmp) (pos : String) (af : Array Edge) (g : Option (Nat × Bool)) (a : Act) (w : World), Agree n ρ a → Hp F Γ w → (execOp a.eval ⟨d, op, ty, pos, af, g⟩).run P w = .ok (.value v) w

/-- One operation that yields a value and leaves the heap as it is. -/
theorem e_val {d : Nat} {op : Op} {ty : TypeId} {pos : String} {af : Array Edge} {g : Option (Nat × Bool)} {K : Act → World → Prop} {v : Value} (hd : Nat.blt d n = true) (hv : Yl P n ρ F Γ op ty v)
    (k : PW X n ((d, v) :: ρ) F Γ K) : PW X n ρ F Γ (fun a w => (Oper.mk (some d) (op) ty pos af g).wp P a w K Q) := by
  intro a w ha hw
  unfold Oper.wp
  rw [hv _ _ _ _ a w ha hw.hp]
  exact k _ _ (ha.put hd) hw

/-- One operation that yields a value in another world. -/
theorem e_new {d : Nat} {op : Op} {ty : TypeId} {pos : String} {af : Array Edge} {g : Option (Nat × Bool)} {K : Act → World → Prop} {S : Value → FH → Blks → Prop} (hd : Nat.blt d n = true)
    (hv : ∀ a w, Agree n ρ a → Holds X F Γ w → ∃ v F' Γ' w', (execOp a.eval ⟨some d, op, ty, pos, af, g⟩).run P w = .ok (.value v) w' ∧ S v F' Γ' ∧ Holds X F' Γ' w')
    (k : ∀ v F' Γ', S v F' Γ' → PW X n ((d, v) :: ρ) F' Γ' K) : PW X n ρ F Γ (fun a w => (Oper.mk (some d) (op) ty pos af g).wp P a w K Q) := by
  intro a w ha hw
  unfold Oper.wp
  obtain ⟨v, F', Γ', w', hr, hS, hw'⟩ := hv a w ha hw
  rw [hr]
  exact k v F' Γ' hS _ _ (ha.put hd) hw'

/-- One operation that yields nothing. -/
theorem e_unit {op : Op} {ty : TypeId} {pos : String} {af : Array Edge} {g : Option (Nat × Bool)} {K : Act → World → Prop} {F' : FH} {Γ' : Blks}
    (hv : ∀ a w, Agree n ρ a → Holds X F Γ w → ∃ w', (execOp a.eval ⟨none, op, ty, pos, af, g⟩).run P w = .ok .skip w' ∧ Holds X F' Γ' w')
    (k : PW X n ρ F' Γ' K) : PW X n ρ F Γ (fun a w => (Oper.mk (none) (op) ty pos af g).wp P a w K Q) := by
  intro a w ha hw
  unfold Oper.wp
  obtain ⟨w', hr, hw'⟩ := hv a w ha hw
  rw [hr]
  exact k _ _ ⟨ha.dz, ha.sz, ha.ag⟩ hw'

theorem y_p {op : Op} {ty : TypeId} {v : Value} (h : p1 ρ op = some v) : Yl P n ρ F Γ op ty v := fun _ _ _ _ _ w ha _ => p1_run ha h w
/-- A value that is known by another spelling. -/
theorem y_pe {op : Op} {ty : TypeId} {v : Value} (u : Value) (h : p1 ρ op = some v) (hu : v = u) : Yl P n ρ F Γ op ty u := hu ▸ y_p h

theorem wrap_i64 {x : Int} (h : -9223372036854775808 ≤ x ∧ x ≤ 9223372036854775807) : IntKind.wrap .i64 x = x := by
  unfold IntKind.wrap
  simp only [IntKind.bits, IntKind.signed, Bool.true_and, ge_iff_le, decide_eq_true_eq, Nat.reduceSub]
  split <;> omega

theorem y_addI {t u : TypeId} {x y : Operand} {ty : TypeId} {a b : Int} (hx : ev ρ x = some (int a)) (hy : ev ρ y = some (int b)) (hr : -9223372036854775808 ≤ a + b ∧ a + b ≤ 9223372036854775807) :
    Yl P n ρ F Γ (.binOp .add t x y u) ty (int (a + b)) :=
  y_p (by simp only [p1, hx, hy, int]; simp only [Nat.beq_refl, cond_true, intBin, wrap_i64 hr])

theorem y_subI {t u : TypeId} {x y : Operand} {ty : TypeId} {a b : Int} (hx : ev ρ x = some (int a)) (hy : ev ρ y = some (int b)) (hr : -9223372036854775808 ≤ a - b ∧ a - b ≤ 9223372036854775807) :
    Yl P n ρ F Γ (.binOp .sub t x y u) ty (int (a - b)) :=
  y_p (by simp only [p1, hx, hy, int]; simp only [Nat.beq_refl, cond_true, intBin, wrap_i64 hr])

theorem y_mulI {t u : TypeId} {x y : Operand} {ty : TypeId} {a b : Int} (hx : ev ρ x = some (int a)) (hy : ev ρ y = some (int b)) (hr : -9223372036854775808 ≤ a * b ∧ a * b ≤ 9223372036854775807) :
    Yl P n ρ F Γ (.binOp .mul t x y u) ty (int (a * b)) :=
  y_p (by simp only [p1, hx, hy, int]; simp only [Nat.beq_refl, cond_true, intBin, wrap_i64 hr])

/-- The next operation of a region: without a guard; with one that says yes; with one that says no; with one that says nothing. -/
theorem o_run {o : Oper} (hg : o.guard = none) (k : PW X n ρ F Γ (fun a w => o.wp P a w (wpList P ops Q rest) Q)) : PW X n ρ F Γ (wpList P ops Q (o :: rest)) := by
  intro a w ha hw
  unfold wpList
  rw [if_pos (by simp [Region.wanted, hg])]
  exact .inl (k a w ha hw)

theorem o_yes {o : Oper} {j t : Nat} {b : Bool} (hg : o.guard = some (j, b)) (ht : (ops[j]?).bind (·.dst) = some t) (hb : lk t ρ = some (.bool b))
    (k : PW X n ρ F Γ (fun a w => o.wp P a w (wpList P ops Q rest) Q)) : PW X n ρ F Γ (wpList P ops Q (o :: rest)) := by
  intro a w ha hw
  have hy : yielded ops a.tmps j = some b := by unfold yielded; rw [ht]; simp [ha.ag t _ hb]
  unfold wpList
  rw [if_pos (by simp [Region.wanted, hg, hy])]
  exact .inl (k a w ha hw)

theorem g_no {d : Nat} {op : Op} {ty : TypeId} {pos : String} {af : Array Edge} {j t : Nat} {b c : Bool} (ht : (ops[j]?).bind (·.dst) = some t) (hb : lk t ρ = some (.bool c)) (hbc : c = !b)
    (hd : Nat.blt d n = true) (k : PW X n ((d, undef) :: ρ) F Γ (wpList P ops Q rest)) : PW X n ρ F Γ (wpList P ops Q (⟨some d, op, ty, pos, af, some (j, b)⟩ :: rest)) := by
  intro a w ha hw
  have hy : yielded ops a.tmps j = some c := by unfold yielded; rw [ht]; simp [ha.ag t _ hb]
  unfold wpList
  rw [if_neg (by simp [Region.wanted, hy, hbc])]
  exact k _ _ (ha.put hd) hw

theorem g_un {d : Nat} {op : Op} {ty : TypeId} {pos : String} {af : Array Edge} {j t : Nat} {b : Bool} (ht : (ops[j]?).bind (·.dst) = some t) (hb : lk t ρ = some undef)
    (hd : Nat.blt d n = true) (k : PW X n ((d, undef) :: ρ) F Γ (wpList P ops Q rest)) : PW X n ρ F Γ (wpList P ops Q (⟨some d, op, ty, pos, af, some (j, b)⟩ :: rest)) := by
  intro a w ha hw
  have hy : yielded ops a.tmps j = none := by unfold yielded; rw [ht]; simp [ha.ag t _ hb, undef]
  unfold wpList
  rw [if_neg (by simp [Region.wanted, hy])]
  exact k _ _ (ha.put hd) hw

/-- Types. -/
structure Ty (P : Program) (t : TypeId) (d : TypeDesc) (sz bytes : Nat) (z : Value) : Prop where
  u : P.underlying t = some d
  s : (P.info? t).map (·.size) = some sz
  b : (P.info? t).map (·.bytes) = some bytes
  z : (P.info? t).bind (·.zero) = some z

theorem Ty.i {t : TypeId} {d : TypeDesc} {sz b : Nat} {z : Value} (h : Ty P t d sz b z) : ∃ i, P.info? t = some i ∧ i.size = sz ∧ i.bytes = b ∧ i.zero = some z := by
  have h1 := h.s
  have h2 := h.b
  have h3 := h.z
  cases hi : P.info? t with
  | none => rw [hi] at h1; simp at h1
  | some i => rw [hi] at h1 h2 h3; simp at h1 h2 h3; exact ⟨i, rfl, h1, h2, h3⟩
theorem Ty.size {t : TypeId} {d : TypeDesc} {sz b : Nat} {z : Value} (h : Ty P t d sz b z) (w : World) : (sizeOf t).run P w = .ok sz w := by
  obtain ⟨i, h1, h2, _⟩ := h.i
  simp [sizeOf, typeInfo, h1, h2]
theorem Ty.zero {t : TypeId} {d : TypeDesc} {sz b : Nat} {z : Value} (h : Ty P t d sz b z) (w : World) : (zeroValue t).run P w = .ok z w := by
  obtain ⟨i, h1, _, _, h2⟩ := h.i
  simp [zeroValue, typeInfo, h1, h2]
theorem Ty.und {t : TypeId} {d : TypeDesc} {sz b : Nat} {z : Value} (h : Ty P t d sz b z) (w : World) : (underlying t).run P w = .ok d w := by
  simp [underlying, h.u]

def isAggD : TypeDesc → Bool
  | .struct _ | .array _ _ => true
  | _ => false

theorem Ty.agg {t : TypeId} {d : TypeDesc} {sz b : Nat} {z : Value} (h : Ty P t d sz b z) (w : World) : (isAgg t).run P w = .ok (isAggD d) w := by
  unfold isAgg
  rw [Sem.run_bind, h.und]
  cases d <;> rfl

def cellsL : Value → List Value
  | .agg ⟨l⟩ => l
  | v => [v]

theorem cellsL_eq (v : Value) : v.cells = (cellsL v).toArray := by cases v <;> rfl

theorem e_box {d : Nat} {t ty : TypeId} {x : Operand} {pos : String} {af : Array Edge} {g : Option (Nat × Bool)} {K : Act → World → Prop} {v : Value} {l : List Value} (hx : ev ρ x = some v) (hl : cellsL v = l) (hd : Nat.blt d n = true)
    (k : ∀ b, PW X n ((d, .pointer (some ⟨b, 0, none⟩)) :: ρ) F ((b, .cells l.toArray t (0, 0)) :: Γ) K) :
    PW X n ρ F Γ (fun a w => (Oper.mk (some d) (.box t x) ty pos af g).wp P a w K Q) :=
  e_new (S := fun v F' Γ' => ∃ b, v = .pointer (some ⟨b, 0, none⟩) ∧ F' = F ∧ Γ' = (b, .cells l.toArray t (0, 0)) :: Γ) hd
    (fun a w ha hw => ⟨_, _, _, _, by simp [execOp, ha.eval hx, Instr.box, newVar, newRow, cellsL_eq, hl], ⟨_, rfl, rfl, rfl⟩, hw.push _⟩)
    (by rintro _ _ _ ⟨b, rfl, rfl, rfl⟩; exact k b)

theorem e_alloc {d : Nat} {t ty : TypeId} {pos : String} {af : Array Edge} {g : Option (Nat × Bool)} {K : Act → World → Prop} {de : TypeDesc} {sz by' : Nat} {z : Value} {l : List Value} (ht : Ty P t de sz by' z) (hl : cellsL z = l) (hd : Nat.blt d n = true)
    (k : ∀ b, PW X n ((d, .pointer (some ⟨b, 0, none⟩)) :: ρ) F ((b, .cells l.toArray t (0, 0)) :: Γ) K) :
    PW X n ρ F Γ (fun a w => (Oper.mk (some d) (.alloc t) ty pos af g).wp P a w K Q) :=
  e_new (S := fun v F' Γ' => ∃ b, v = .pointer (some ⟨b, 0, none⟩) ∧ F' = F ∧ Γ' = (b, .cells l.toArray t (0, 0)) :: Γ) hd
    (fun a w ha hw => ⟨_, _, _, _, by simp [execOp, Instr.alloc, ht.zero, newVar, newRow, cellsL_eq, hl], ⟨_, rfl, rfl, rfl⟩, hw.push _⟩)
    (by rintro _ _ _ ⟨b, rfl, rfl, rfl⟩; exact k b)

/-- A block among the exclusive ones, and the list with another content of it. -/
class At (Γ : Blks) (b : Nat) (o : outParam Obj) (C : outParam (Obj → Blks)) : Prop where
  p : ∃ r, Γ.Perm ((b, o) :: r) ∧ ∀ o', (C o').Perm ((b, o') :: r)

instance At.here (b : Nat) (o : Obj) (Γ : Blks) : At ((b, o) :: Γ) b o (fun o' => (b, o') :: Γ) := ⟨⟨Γ, List.Perm.refl _, fun _ => List.Perm.refl _⟩⟩
instance At.there (q : Nat × Obj) (Γ : Blks) (b : Nat) (o : Obj) (C : Obj → Blks) [h : At Γ b o C] : At (q :: Γ) b o (fun o' => q :: C o') := ⟨by
  obtain ⟨r, h1, h2⟩ := h.p
  exact ⟨q :: r, (h1.cons q).trans (List.Perm.swap _ _ _), fun o' => ((h2 o').cons q).trans (List.Perm.swap _ _ _)⟩⟩

theorem At.get {b : Nat} {o : Obj} {C : Obj → Blks} [h : At Γ b o C] {w : World} (hw : Hp F Γ w) : w.heap[b]? = some o := by
  obtain ⟨r, h1, _⟩ := h.p
  exact hw.own (b, o) (h1.mem_iff.2 (by simp))

theorem At.set {b : Nat} {o o' : Obj} {C : Obj → Blks} [h : At Γ b o C] {w : World} (hw : Holds X F Γ w) : Holds X F (C o') { w with heap := w.heap.setIfInBounds b o' } := by
  obtain ⟨r, h1, h2⟩ := h.p
  exact ((hw.perm h1).set (o' := o')).perm (h2 o').symm

def seg : List Value → Nat → Nat → Option (List Value)
  | _, 0, 0 => some []
  | [], _, _ => none
  | v :: r, 0, k + 1 => match seg r 0 k with
    | some l => some (v :: l)
    | none => none
  | _ :: r, o + 1, k => seg r o k

theorem seg_spec : ∀ {c : List Value} {o k : Nat} {l : List Value}, seg c o k = some l → l.length = k ∧ ∀ j v, l[j]? = some v → c[o + j]? = some v
  | c, 0, 0, l, h => by
    have : l = [] := by cases c <;> simpa [seg] using h.symm
    subst this; simp
  | [], 0, _ + 1, l, h => by simp [seg] at h
  | [], _ + 1, _, l, h => by simp [seg] at h
  | v :: r, 0, k + 1, l, h => by
    simp only [seg] at h
    split at h
    · rename_i m hm
      simp at h
      subst h
      obtain ⟨h1, h2⟩ := seg_spec hm
      refine ⟨by simp [h1], fun j u hj => ?_⟩
      cases j with
      | zero => simpa using hj
      | succ j => simp at hj; have := h2 j u hj; simp at this; simpa using this
    · simp at h
  | _ :: r, o + 1, k, l, h => by
    simp only [seg] at h
    obtain ⟨h1, h2⟩ := seg_spec h
    refine ⟨h1, fun j u hj => ?_⟩
    have := h2 j u hj
    rw [show o + 1 + j = (o + j) + 1 by omega]
    simpa using this

def ldv (agg : Bool) (sz : Nat) (c : List Value) (off : Nat) : Option Value :=
  match agg with
  | true => match seg c off sz with
    | some l => some (.agg l.toArray)
    | none => none
  | false => nth c off

theorem cell_of {w : World} {b : Nat} {c : Array Value} {u : TypeId} {fz : Nat × Nat} (h : w.heap[b]? = some (.cells c u fz)) (i : Nat) :
    w.cell? ⟨b, i, none⟩ = c[i]? := by simp [World.cell?, h]

theorem add_off (b off i : Nat) : (Addr.add ⟨b, off, none⟩ i) = ⟨b, off + i, none⟩ := by
  unfold Addr.add; split
  · rename_i h; subst h; rfl
  · rfl

theorem loadVar_run {t : TypeId} {de : TypeDesc} {sz by' : Nat} {z v : Value} {b off : Nat} {c : List Value} {u : TypeId} {fz : Nat × Nat} {w : World} (ht : Ty P t de sz by' z)
    (h : w.heap[b]? = some (.cells c.toArray u fz)) (hv : ldv (isAggD de) sz c off = some v) : (loadVar t ⟨b, off, none⟩).run P w = .ok v w := by
  unfold loadVar
  rw [Sem.run_bind, ht.agg, Result.andThen_ok]
  cases hA : isAggD de with
  | true =>
    rw [hA] at hv
    simp only [ldv] at hv
    split at hv
    · rename_i l hl
      simp at hv
      obtain ⟨h1, h2⟩ := seg_spec hl
      simp only [if_true]
      rw [Sem.run_bind, ht.size, Result.andThen_ok, Sem.run_bind, ← h1, run_loadCells_list w ⟨b, off, none⟩ l (fun j v hj => by
        rw [add_off, cell_of h]; simpa using h2 j v hj)]
      simp [← hv]
    · simp at hv
  | false =>
    rw [hA] at hv
    simp only [ldv, nth_eq] at hv
    have hc := cell_of h off
    simp at hc
    simp [hc, hv]

theorem y_ld {t ty : TypeId} {x : Operand} {de : TypeDesc} {sz by' : Nat} {z v : Value} {b off : Nat} {c : List Value} {u : TypeId} {fz : Nat × Nat} {C : Obj → Blks}
    (ht : Ty P t de sz by' z) (hx : ev ρ x = some (.pointer (some ⟨b, off, none⟩))) [hA : At Γ b (.cells c.toArray u fz) C] (hv : ldv (isAggD de) sz c off = some v) :
    Yl P n ρ F Γ (.load t x) ty (v) := fun d pos af g a w ha hw => by simp [execOp, ha.eval hx, Instr.loadAt, Instr.sureAddr, loadVar_run ht (hA.get hw) hv]

theorem y_ldF {t ty : TypeId} {x : Operand} {de : TypeDesc} {sz by' : Nat} {z v : Value} {b off : Nat} {c : List Value} {u : TypeId} {fz : Nat × Nat}
    (ht : Ty P t de sz by' z) (hx : ev ρ x = some (.pointer (some ⟨b, off, none⟩))) (hF : F b = some (.cells c.toArray u fz)) (hv : ldv (isAggD de) sz c off = some v) :
    Yl P n ρ F Γ (.load t x) ty (v) := fun d pos af g a w ha hw => by simp [execOp, ha.eval hx, Instr.loadAt, Instr.sureAddr, loadVar_run ht (hw.fr _ _ hF) hv]

def one1 : Value → Bool
  | .agg _ | .tuple _ => false
  | _ => true
def flatL : List Value → Bool
  | [] => true
  | v :: r => one1 v && flatL r

/-- The cells from a place on, written. -/
def upd : List Value → Nat → List Value → Option (List Value)
  | c, 0, [] => some c
  | [], _, _ => none
  | _ :: c, 0, v :: r => match upd c 0 r with
    | some c' => some (v :: c')
    | none => none
  | u :: c, o + 1, r => match upd c o r with
    | some c' => some (u :: c')
    | none => none

theorem upd_nil : ∀ (c : List Value), upd c 0 [] = some c
  | [] => rfl
  | _ :: _ => rfl

theorem upd_cons : ∀ {c : List Value} {o : Nat} {v : Value} {l c' : List Value}, upd c o (v :: l) = some c' → o < c.length ∧ upd (c.set o v) (o + 1) l = some c'
  | [], 0, _, _, _, h => by simp [upd] at h
  | [], _ + 1, _, _, _, h => by simp [upd] at h
  | _ :: c, 0, v, l, c', h => by
    simp only [upd] at h
    refine ⟨by simp, ?_⟩
    simp only [List.set_cons_zero, upd]
    exact h
  | u :: c, o + 1, v, l, c', h => by
    simp only [upd] at h
    split at h
    · rename_i m hm
      obtain ⟨h1, h2⟩ := upd_cons hm
      refine ⟨by simpa using h1, ?_⟩
      simp only [List.set_cons_succ, upd, h2]
      exact h
    · simp at h

theorem storeCells_run {b : Nat} {u : TypeId} {fz : Nat × Nat} (off : Nat) : ∀ (l : List Value) (i : Nat) (c c' : List Value) (w : World), flatL l = true → w.heap[b]? = some (.cells c.toArray u fz) →
    upd c (off + i) l = some c' → (∀ j, off ≤ j → j < off + i + l.length → ¬ (fz.1 ≤ j ∧ j < fz.2)) →
    (storeCells ⟨b, off, none⟩ l i).run P w = .ok () { w with heap := w.heap.setIfInBounds b (.cells c'.toArray u fz) }
  | [], i, c, c', w, _, hb, hu, _ => by
    have : c = c' := by
      have key : ∀ (c : List Value) (o : Nat) (c' : List Value), upd c o [] = some c' → c = c' := by
        intro c
        induction c with
        | nil => intro o c' h; cases o <;> simp [upd] at h; exact h.symm
        | cons x c ih =>
          intro o c' h
          cases o with
          | zero => simpa [upd] using h
          | succ o =>
            simp only [upd] at h
            split at h
            · rename_i m hm; simp at h; rw [← h, ih o m hm]
            · simp at h
      exact key _ _ _ hu
    subst this
    simp only [storeCells, Sem.run_pure]
    have hlt := lt_of_get hb
    have : w.heap.setIfInBounds b (.cells c.toArray u fz) = w.heap := by
      apply Array.ext_getElem?
      intro j
      rw [Array.getElem?_setIfInBounds]
      split
      · rename_i h; subst h; rw [hb]
      · rfl
    rw [this]
  | v :: l, i, c, c', w, hfl, hb, hu, hz => by
    obtain ⟨h1, h2⟩ := upd_cons hu
    simp only [flatL, Bool.and_eq_true] at hfl
    have hone : v.oneCell' = true := by have := hfl.1; cases v <;> first | rfl | (simp [one1] at this)
    have hcell : w.cell? ⟨b, off + i, none⟩ = some c[off + i] := by rw [cell_of hb]; simp [h1]
    have hfz : w.frozen? ⟨b, off + i, none⟩ = false := by
      have := hz (off + i) (by omega) (by simp)
      simp only [World.frozen?, hb]
      obtain ⟨lo, hi⟩ := fz
      simp only [decide_eq_true_eq, Bool.and_eq_false_iff, decide_eq_false_iff_not] at this ⊢
      omega
    have hlt := lt_of_get hb
    have hset : w.setCell ⟨b, off + i, none⟩ v = { w with heap := w.heap.setIfInBounds b (.cells (c.set (off + i) v).toArray u fz) } := by
      unfold World.setCell
      congr 1
      apply Array.ext_getElem?
      intro j
      rw [Array.getElem?_modify, Array.getElem?_setIfInBounds]
      split
      · rename_i h; subst h; rw [hb]; simp
      · rfl
    have hb' : ({ w with heap := w.heap.setIfInBounds b (.cells (c.set (off + i) v).toArray u fz) } : World).heap[b]? = some (.cells (c.set (off + i) v).toArray u fz) := by
      simp [Array.getElem?_setIfInBounds, hlt]
    have ih := storeCells_run off l (i + 1) (c.set (off + i) v) c' { w with heap := w.heap.setIfInBounds b (.cells (c.set (off + i) v).toArray u fz) } hfl.2 hb'
      (by rw [← h2]; rfl) (fun j hj hj' => hz j hj (by simp; omega))
    simp only [storeCells, Sem.run_bind]
    rw [add_off, run_store P w _ v _ hone, hcell]
    simp only [hfz, hset, Bool.false_eq_true, if_false, Result.andThen_ok]
    rw [ih]
    congr 2
    apply Array.ext_getElem?
    intro j
    simp only [Array.getElem?_setIfInBounds]
    split <;> simp_all

def noFz (fz : Nat × Nat) (off k : Nat) : Prop := ∀ j, off ≤ j → j < off + k → ¬ (fz.1 ≤ j ∧ j < fz.2)
theorem noFz0 {off k : Nat} : noFz (0, 0) off k := by intro j _ _ h; simp at h

theorem e_st' {t ty : TypeId} {x y : Operand} {pos : String} {af : Array Edge} {g : Option (Nat × Bool)} {K : Act → World → Prop} {de : TypeDesc} {sz by' : Nat} {z v : Value} {b off : Nat} {c c' l : List Value} {u : TypeId} {fz : Nat × Nat} {C : Obj → Blks}
    (ht : Ty P t de sz by' z) (hx : ev ρ x = some (.pointer (some ⟨b, off, none⟩))) (hy : ev ρ y = some v) [hA : At Γ b (.cells c.toArray u fz) C] (hl : cellsL v = l) (hs : l.length = sz)
    (hfl : flatL l = true) (hu : upd c off l = some c') (hz : noFz fz off sz)
    (k : PW X n ρ F (C (.cells c'.toArray u fz)) K) : PW X n ρ F Γ (fun a w => (Oper.mk (none) (.store t x y) ty pos af g).wp P a w K Q) :=
  e_unit (fun a w ha hw => ⟨_, by
    have h1 := storeCells_run (P := P) off l 0 c c' w hfl (hA.get hw.hp) (by simpa using hu) (by simpa [noFz, hs] using hz)
    simp only [execOp, ha.eval hx, ha.eval hy, Instr.storeAt, Instr.sureAddr, storeVar, Sem.run_bind, Sem.run_pure, Result.andThen_ok, ht.size, cellsL_eq, hl]
    simp only [List.size_toArray, hs, ne_eq, not_true_eq_false, if_false, h1, Sem.run_bind, Result.andThen_ok, Sem.run_pure]
    rfl, At.set hw⟩) k

theorem e_st {t ty : TypeId} {x y : Operand} {pos : String} {af : Array Edge} {g : Option (Nat × Bool)} {K : Act → World → Prop} {de : TypeDesc} {sz by' : Nat} {z v : Value} {b off : Nat} {c c' l : List Value} {u : TypeId} {C : Obj → Blks}
    (ht : Ty P t de sz by' z) (hx : ev ρ x = some (.pointer (some ⟨b, off, none⟩))) (hy : ev ρ y = some v) [hA : At Γ b (.cells c.toArray u (0, 0)) C] (hl : cellsL v = l) (hs : l.length = sz)
    (hfl : flatL l = true) (hu : upd c off l = some c')
    (k : PW X n ρ F (C (.cells c'.toArray u (0, 0))) K) : PW X n ρ F Γ (fun a w => (Oper.mk (none) (.store t x y) ty pos af g).wp P a w K Q) :=
  e_st' ht hx hy hl hs hfl hu noFz0 k

/-- A field's place in its struct. -/
def Fo (P : Program) (s f off sz : Nat) (agg : Bool) : Prop := ∃ fs fd de by' z, P.underlying s = some (.struct fs) ∧ fs[f]? = some fd ∧ fd.offset = off ∧ Ty P fd.type de sz by' z ∧ isAggD de = agg

theorem y_fa {s f : Nat} {ty : TypeId} {x : Operand} {b off o sz : Nat} {agg : Bool} (hf : Fo P s f off (sz + 1) agg) (hx : ev ρ x = some (.pointer (some ⟨b, o, none⟩))) :
    Yl P n ρ F Γ (.fieldAddr s x f) ty (.pointer (some ⟨b, o + off, none⟩)) := fun d pos af g a w ha hw => by
    obtain ⟨fs, fd, de, by', z, h1, h2, h3, h4, _⟩ := hf
    have hsz := h4.size w
    simp [execOp, ha.eval hx, Instr.fieldAt, underlying, h1, h2, Instr.sureAddr, fieldPlace, hsz, h3, add_off]

theorem y_f {s f : Nat} {ty : TypeId} {x : Operand} {off sz : Nat} {agg : Bool} {c : List Value} {v : Value} (hf : Fo P s f off sz agg) (hx : ev ρ x = some (.agg c.toArray))
    (hv : ldv agg sz c off = some v) :
    Yl P n ρ F Γ (.field s x f) ty (v) := fun d pos af g a w ha hw => by
    obtain ⟨fs, fd, de, by', z, h1, h2, h3, h4, h5⟩ := hf
    have hsz := h4.size w
    have hag := h4.agg w
    rw [h5] at hag
    cases agg with
    | true =>
      simp only [ldv] at hv
      split at hv
      · rename_i l hl
        simp at hv
        obtain ⟨g1, g2⟩ := seg_spec hl
        have he : c.toArray.extract off (off + sz) = l.toArray := by
          apply Array.ext_getElem?
          intro j
          rw [Array.getElem?_extract]
          split
          · rename_i hj
            have : j < l.length := by simp at hj; omega
            simp [g2 j l[j] (by simp [this]), this]
          · rename_i hj
            simp at hj
            simp
            by_cases hjl : j < l.length
            · have := g2 j l[j] (by simp [hjl])
              have := (List.getElem?_eq_some_iff.1 this).1
              omega
            · omega
        simp only [execOp, ha.eval hx, Instr.field, underlying, Sem.run_bind, run_program, Result.andThen_ok, h1, h2, asAgg, part, hag, hsz, h3, he, Sem.run_pure, if_true, hv]
      · simp at hv
    | false =>
      simp only [ldv, nth_eq] at hv
      simp [execOp, ha.eval hx, Instr.field, underlying, h1, h2, asAgg, part, hag, h3, hv]

end
end Go.SL
