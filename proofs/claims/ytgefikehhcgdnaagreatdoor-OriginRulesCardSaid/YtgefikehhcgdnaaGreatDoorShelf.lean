/- From the library's contracts (kit) to the walk's; pointers and Bools compared. No condition. -/
import Derived.Test.YtgefikehhcgdnaaGreatDoorDraw
import Derived.Below
import Derived.Deep.Draws
import Derived.Sort.Grow
namespace Go.SL
open Go.RowKit (Below)

section
variable {P : Program} {X : Cx} {n : Nat} {ρ : Regs} {F : FH} {Γ : Blks}

theorem Holds.below {w w' : World} (h : Holds ⟨w, Γ.map (·.1), F⟩ F Γ w) (hb : Below w.heap.size w w') : Holds ⟨w, Γ.map (·.1), F⟩ F Γ w' where
  fr := fun b o hF => by have := h.fr b o hF; rw [hb.block b (lt_of_get this)]; exact this
  own := fun p hp => by rw [hb.block p.1 (h.lt hp)]; exact h.own p hp
  nd := h.nd
  dj := h.dj
  rng := h.rng
  size := hb.size
  frame := fun b hlt _ => hb.block b hlt
  up := h.up
  dom := h.dom
  tape := hb.tape
  os := hb.os
  out := hb.output

theorem fnv_below {f : FuncId} {args : List Value} {v : Value} (hc : Callable P f)
    (h : ∀ w, Hp F [] w → Calls P f args.toArray w fun e w' => e = .returned v ∧ Below w.heap.size w w') : FnV P f args F v :=
  ⟨hc, fun w hw => (h w hw.hp).mono fun _ _ ⟨he, hb⟩ => ⟨v, F, [], he, rfl, hw.below hb⟩⟩

theorem fnv_same {f : FuncId} {args : List Value} {v : Value} (hc : Callable P f)
    (h : ∀ w, Hp F [] w → Calls P f args.toArray w fun e w' => e = .returned v ∧ w' = w) : FnV P f args F v :=
  fnv_below hc fun w hw => (h w hw).mono fun _ _ ⟨he, hb⟩ => ⟨he, by rw [hb]; exact Below.refl _ _⟩

theorem eqIn_ptr (k : Nat) {t e : TypeId} (h : P.underlying t = some (.pointer e)) (a : Option Addr) (w : World) : (Op.equalIn (k + 1) t (.pointer a) (.pointer none)).run P w = .ok a.isNone w := by
  cases a <;> simp [Op.equalIn, underlying, h]
theorem eqIn_bool (k : Nat) {t : TypeId} (h : P.underlying t = some .bool) (a b : Bool) (w : World) : (Op.equalIn (k + 1) t (.bool a) (.bool b)).run P w = .ok (a == b) w := by
  simp [Op.equalIn, underlying, h]

theorem y_peq {t e u ty : TypeId} {x : Operand} {a : Option Addr} {sz by' : Nat} {z : Value} (ht : Ty P t (.pointer e) sz by' z) (hx : ev ρ x = some (.pointer a)) :
    Yl P n ρ F Γ (.binOp .eql t x (.const (.pointer none)) u) ty (.bool a.isNone) := fun d pos af g c w ha hw => by
  have hy : c.eval (.const (.pointer none)) = .pointer none := rfl
  have h1 := eqIn_ptr (P := P) 9999 ht.u a w
  have h2 : (Op.equal t (.pointer a) (.pointer none)).run P w = .ok a.isNone w := h1
  simp [execOp, ha.eval hx, hy, eqGuard, binOp, h2]

theorem y_pne {t e u ty : TypeId} {x : Operand} {a : Option Addr} {sz by' : Nat} {z : Value} (ht : Ty P t (.pointer e) sz by' z) (hx : ev ρ x = some (.pointer a)) :
    Yl P n ρ F Γ (.binOp .neq t x (.const (.pointer none)) u) ty (.bool a.isSome) := fun d pos af g c w ha hw => by
  have hy : c.eval (.const (.pointer none)) = .pointer none := rfl
  have h1 := eqIn_ptr (P := P) 9999 ht.u a w
  have h2 : (Op.equal t (.pointer a) (.pointer none)).run P w = .ok a.isNone w := h1
  simp [execOp, ha.eval hx, hy, eqGuard, binOp, h2]

theorem y_beq {t u ty : TypeId} {x y : Operand} {a b : Bool} {sz by' : Nat} {z : Value} (ht : Ty P t .bool sz by' z) (hx : ev ρ x = some (.bool a)) (hy : ev ρ y = some (.bool b)) :
    Yl P n ρ F Γ (.binOp .eql t x y u) ty (.bool (decide (a = b))) := fun d pos af g c w ha hw => by
  have h2 : (Op.equal t (.bool a) (.bool b)).run P w = .ok (a == b) w := eqIn_bool 9999 ht.u a b w
  cases a <;> cases b <;> simp [execOp, ha.eval hx, ha.eval hy, eqGuard, binOp, h2]

theorem y_bne {t u ty : TypeId} {x y : Operand} {a b : Bool} {sz by' : Nat} {z : Value} (ht : Ty P t .bool sz by' z) (hx : ev ρ x = some (.bool a)) (hy : ev ρ y = some (.bool b)) :
    Yl P n ρ F Γ (.binOp .neq t x y u) ty (.bool (decide (a ≠ b))) := fun d pos af g c w ha hw => by
  have h2 : (Op.equal t (.bool a) (.bool b)).run P w = .ok (a == b) w := eqIn_bool 9999 ht.u a b w
  cases a <;> cases b <;> simp [execOp, ha.eval hx, ha.eval hy, eqGuard, binOp, h2]
theorem below_drewN {w : World} (k : Nat) : Below w.heap.size w (w.drewN k) := ⟨rfl, rfl, rfl, Nat.le_refl _, fun _ _ => rfl⟩
theorem below_grow {w : World} (k : Nat) (os : Array Obj) : Below w.heap.size w (Go.Sort.grow (w.drewN k) os) := ⟨rfl, rfl, rfl, by simp [Go.Sort.grow, World.drewN], fun j hj => by
  simp only [Go.Sort.grow, World.drewN]
  rw [Array.getElem?_append_left hj]⟩
end
end Go.SL
