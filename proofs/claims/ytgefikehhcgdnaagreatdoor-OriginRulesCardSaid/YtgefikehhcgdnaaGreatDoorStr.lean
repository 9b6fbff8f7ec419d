/- The rules for strings, lengths, indexes. No condition. -/
import Derived.Test.YtgefikehhcgdnaaGreatDoorCall
namespace Go.SL

/-- A byte of a text, as a number. -/
def bt (l : List UInt8) (i : Nat) : Int := ((l.getD i 0).toNat : Int)
theorem bt_rng (l : List UInt8) (i : Nat) : 0 ≤ bt l i ∧ bt l i ≤ 255 := by
  unfold bt; have := (l.getD i 0).toNat_lt; omega
abbrev byte (x : Int) : Value := .int .u8 x

section
variable {P : Program} {X : Cx} {n : Nat} {ρ : Regs} {F : FH} {Γ : Blks} {Q : Exit → Act → World → Prop} {ops : Array Oper} {rest : List Oper}

theorem bsz (l : List UInt8) : (ByteArray.mk l.toArray).size = l.length := rfl

theorem y_lenS {x : Operand} {t ty : TypeId} {l : List UInt8} {sz by' : Nat} {z : Value} (ht : Ty P t .string sz by' z) (hx : ev ρ x = some (str l)) :
    Yl P n ρ F Γ (.call ⟨.builtin .len, #[x], #[t]⟩) ty (int l.length) := fun d pos af g a w ha hw => by
    simp [execOp, resolve, ha.eval hx, invoke, builtin, Builtin.len_, underlying, ht.u, goInt, bsz]

theorem y_lenL {x : Operand} {t e ty : TypeId} {a0 : Option Addr} {len cap sz by' : Nat} {z : Value} (ht : Ty P t (.slice e) sz by' z) (hx : ev ρ x = some (.slice a0 len cap)) :
    Yl P n ρ F Γ (.call ⟨.builtin .len, #[x], #[t]⟩) ty (int len) := fun d pos af g a w ha hw => by
    simp [execOp, resolve, ha.eval hx, invoke, builtin, Builtin.len_, underlying, ht.u, goInt]

theorem y_capL {x : Operand} {t e ty : TypeId} {a0 : Option Addr} {len cap sz by' : Nat} {z : Value} (ht : Ty P t (.slice e) sz by' z) (hx : ev ρ x = some (.slice a0 len cap)) :
    Yl P n ρ F Γ (.call ⟨.builtin .cap, #[x], #[t]⟩) ty (int cap) := fun d pos af g a w ha hw => by
    simp [execOp, resolve, ha.eval hx, invoke, builtin, Builtin.cap_, underlying, ht.u, goInt]

theorem y_min {x y : Operand} {ts : Array TypeId} {ty : TypeId} {p q : Int} (hx : ev ρ x = some (int p)) (hy : ev ρ y = some (int q)) :
    Yl P n ρ F Γ (.call ⟨.builtin .min, #[x, y], ts⟩) ty (int (if q < p then q else p)) := fun d pos af g a w ha hw => by
    simp [execOp, resolve, ha.eval hx, ha.eval hy, invoke, builtin, Builtin.min_, Builtin.min2]

theorem y_max {x y : Operand} {ts : Array TypeId} {ty : TypeId} {p q : Int} (hx : ev ρ x = some (int p)) (hy : ev ρ y = some (int q)) :
    Yl P n ρ F Γ (.call ⟨.builtin .max, #[x, y], ts⟩) ty (int (if q > p then q else p)) := fun d pos af g a w ha hw => by
    simp [execOp, resolve, ha.eval hx, ha.eval hy, invoke, builtin, Builtin.max_, Builtin.max2]

/-- An index of a text. -/
theorem y_ixS {x y : Operand} {t ty : TypeId} {l : List UInt8} {k : IntKind} {i : Int} {sz by' : Nat} {z : Value} (ht : Ty P t .string sz by' z) (hx : ev ρ x = some (str l)) (hy : ev ρ y = some (.int k i))
    (hi : 0 ≤ i ∧ i < l.length) :
    Yl P n ρ F Γ (.index t x y) ty (byte (bt l i.toNat)) := fun d pos af g a w ha hw => by
    have h1 : i.toNat < l.length := by omega
    have h2 : (ByteArray.mk l.toArray)[i.toNat]? = some l[i.toNat] := by
      rw [getElem?_pos (ByteArray.mk l.toArray) i.toNat (by simpa [ByteArray.size] using h1)]; rfl
    simp [execOp, ha.eval hx, ha.eval hy, Instr.index, asIntOf, underlying, ht.u, hi.1, h2, byte, bt, h1]

theorem extract_str (l : List UInt8) (a b : Nat) : (ByteArray.mk l.toArray).extract a b = ⟨((l.take b).drop a).toArray⟩ := by
  rw [ByteArray.ext_iff, ByteArray.data_extract]
  simp [List.drop_take]

def optI (ρ : Regs) (o : Option Operand) (df : Int) : Option Int :=
  match o with
  | none => some df
  | some x => match ev ρ x with
    | some (.int .i64 a) => some a
    | _ => none

theorem sliceBound_run {w : World} {a : Int} {y : Nat} {c : BoundsCode} (h : 0 ≤ a ∧ a ≤ y) : (Instr.sliceBound (int a) y c).run P w = .ok a.toNat w := by
  simp [Instr.sliceBound, asIntOf, h]

theorem optI_some {o : Operand} {df a : Int} (h : optI ρ (some o) df = some a) : ev ρ o = some (int a) := by
  simp only [optI] at h
  split at h
  · rename_i b hb; simp at h; rw [hb, h]
  · simp at h

theorem bounds_run {lo hi : Option Operand} {a b : Int} {len cap : Nat} {c : Act} (hc : Agree n ρ c) (isl : Bool) (hlo : optI ρ lo 0 = some a) (hhi : optI ρ hi len = some b)
    (hr : 0 ≤ a ∧ a ≤ b ∧ b ≤ cap) (w : World) :
    (Instr.sliceBounds isl len cap (lo.map c.eval) (hi.map c.eval) none).run P w = .ok (a.toNat, b.toNat, cap) w := by
  have hb : 0 ≤ b ∧ b ≤ (cap : Int) := by omega
  have ha : 0 ≤ a ∧ a ≤ (b.toNat : Int) := by omega
  cases lo with
  | none =>
    simp only [optI, Option.some.injEq] at hlo
    subst hlo
    cases hi with
    | none => simp only [optI, Option.some.injEq] at hhi; subst hhi; simp [Instr.sliceBounds]
    | some o => simp [Instr.sliceBounds, hc.eval (optI_some hhi), sliceBound_run hb]
  | some p =>
    cases hi with
    | none =>
      simp only [optI, Option.some.injEq] at hhi; subst hhi
      simp only [Int.toNat_natCast] at ha
      simp [Instr.sliceBounds, hc.eval (optI_some hlo), sliceBound_run ha]
    | some o => simp [Instr.sliceBounds, hc.eval (optI_some hhi), hc.eval (optI_some hlo), sliceBound_run hb, sliceBound_run ha]

/-- A part of a text. -/
theorem y_slS {x : Operand} {lo hi : Option Operand} {t ty : TypeId} {l : List UInt8} {a b : Int} {sz by' : Nat} {z : Value} (ht : Ty P t .string sz by' z) (hx : ev ρ x = some (str l))
    (hlo : optI ρ lo 0 = some a) (hhi : optI ρ hi l.length = some b)
    (hr : 0 ≤ a ∧ a ≤ b ∧ b ≤ l.length) :
    Yl P n ρ F Γ (.slice t x lo hi none) ty (str ((l.take b.toNat).drop a.toNat)) := fun d pos af g c w ha hw => by
    have h1 := bounds_run (P := P) (cap := l.length) ha false hlo hhi hr w
    simp only [execOp, ha.eval hx, Instr.sliceAt, Instr.slice, underlying, Sem.run_bind, run_program, Result.andThen_ok, ht.u, Sem.run_pure, Option.map_none, Option.isSome_none, Bool.false_eq_true, if_false, bsz, h1, extract_str]

/-- Two texts, one behind the other. -/
theorem y_cat {x y : Operand} {t u ty : TypeId} {l m : List UInt8} (hx : ev ρ x = some (str l)) (hy : ev ρ y = some (str m))
    (hr : l.length + m.length ≤ 9223372036854775807) :
    Yl P n ρ F Γ (.binOp .add t x y u) ty (str (l ++ m)) := fun d pos af g a w ha hw => by
    have h1 : (ByteArray.mk l.toArray) ++ (ByteArray.mk m.toArray) = ⟨(l ++ m).toArray⟩ := by
      rw [ByteArray.ext_iff]; simp
    have h2 := run_string_add_sum (P := P) w (ByteArray.mk l.toArray) (ByteArray.mk m.toArray) (by simpa [bsz] using hr)
    simp [execOp, ha.eval hx, ha.eval hy, eqGuard, binOp, h2, h1]

end
end Go.SL
