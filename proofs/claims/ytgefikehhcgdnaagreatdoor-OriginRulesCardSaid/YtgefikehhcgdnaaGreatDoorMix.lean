/- Results of several kinds; maps by keys of any kind; copies; arrays' places; bound calls. No condition. -/
import Derived.Test.YtgefikehhcgdnaaGreatDoorFld
namespace Go.SL

theorem Cs.blk {F : FH} {b : Nat} {c : List Value} {u : TypeId} {fz : Nat × Nat} (h : F b = some (.cells (List.toArray c) u fz)) : Cs F b 0 c := ⟨c, u, fz, h, seg_of (fun j v hj => by simpa using hj) (.inl (by omega))⟩
theorem flatMap_drop {α : Type} {enc : α → List Value} {sz : Nat} (he : ∀ x, (enc x).length = sz) : ∀ (l : List α) (i : Nat), (l.drop i).flatMap enc = (l.flatMap enc).drop (i * sz)
  | _, 0 => by simp
  | [], _ + 1 => by simp
  | x :: l, i + 1 => by
    simp only [List.drop_succ_cons, List.flatMap_cons]
    have hd : (enc x).drop sz = [] := List.drop_of_length_le (by rw [he]; exact Nat.le_refl _)
    rw [flatMap_drop he l i, Nat.add_mul, Nat.one_mul, Nat.add_comm (i * sz) sz, ← List.drop_drop, List.drop_append_of_le_length (by rw [he]; exact Nat.le_refl _), hd, List.nil_append]
theorem flatMap_take {α : Type} {enc : α → List Value} {sz : Nat} (he : ∀ x, (enc x).length = sz) : ∀ (l : List α) (i : Nat), (l.take i).flatMap enc = (l.flatMap enc).take (i * sz)
  | _, 0 => by simp
  | [], _ + 1 => by simp
  | x :: l, i + 1 => by
    simp only [List.take_succ_cons, List.flatMap_cons]
    have ht : (enc x).take (i * sz + sz) = enc x := List.take_of_length_le (by rw [he]; omega)
    rw [flatMap_take he l i, Nat.add_mul, Nat.one_mul, List.take_append, ht, he, Nat.add_sub_cancel]
theorem SlAt.cap {α : Type} {enc : α → List Value} {F : FH} {a0 : Option Addr} {cap : Nat} {l : List α} (h : SlAt F enc (.slice a0 l.length cap) l) : l.length ≤ cap := by
  rcases h with ⟨rfl, _⟩ | ⟨b, off, cap', hv, hc, -⟩
  · simp
  · simp only [Value.slice.injEq] at hv
    omega
/-- A part of a slice that is read only. -/
theorem SlAt.sub {α : Type} {enc : α → List Value} {sz : Nat} {F : FH} {a0 : Option Addr} {len cap : Nat} {l : List α} (he : ∀ x, (enc x).length = sz) (h : SlAt F enc (.slice a0 len cap) l) {i j : Nat} (hi : i ≤ j) (hj : j ≤ l.length) :
    SlAt F enc (.slice (if cap = i then a0 else a0.map (·.add (i * sz))) (j - i) (cap - i)) ((l.take j).drop i) := by
  rcases Nat.eq_or_lt_of_le hi with h0 | h0
  · subst h0
    exact .inl ⟨by simp, _, _, by rw [Nat.sub_self]⟩
  · rcases h with ⟨rfl, _⟩ | ⟨b, off, cap', hv, hc, hC⟩
    · simp at hj; omega
    · simp only [Value.slice.injEq] at hv
      obtain ⟨rfl, rfl, rfl⟩ := hv
      refine .inr ⟨b, off + i * sz, cap - i, ?_, ?_, ?_⟩
      · rw [if_neg (by omega)]
        simp [Addr.add, Nat.min_eq_left hj]
      · simp [Nat.min_eq_left hj]; omega
      · rw [List.drop_take, flatMap_take he, flatMap_drop he]
        refine hC.sub (i * sz) ((j - i) * sz) ?_
        rw [flatMap_len he, ← Nat.add_mul]
        exact Nat.mul_le_mul_right sz (by omega)

section
variable {P : Program} {X : Cx} {n : Nat} {ρ : Regs} {F : FH} {Γ : Blks} {Q : Exit → Act → World → Prop}

/-- A part of a slice. -/
theorem y_slc {x : Operand} {lo hi : Option Operand} {t e ty : TypeId} {a0 : Option Addr} {len cap : Nat} {a b : Int} {de : TypeDesc} {sz by' s1 b1 : Nat} {z z1 : Value} (ht : Ty P t (.slice e) s1 b1 z1) (he : Ty P e de sz by' z) (hx : ev ρ x = some (.slice a0 len cap))
    (hlo : optI ρ lo 0 = some a) (hhi : optI ρ hi len = some b) (hr : 0 ≤ a ∧ a ≤ b ∧ b ≤ cap) :
    Yl P n ρ F Γ (.slice t x lo hi none) ty (.slice (if cap = a.toNat then a0 else a0.map (·.add (a.toNat * sz))) (b.toNat - a.toNat) (cap - a.toNat)) := fun d pos af g c w ha hw => by
    have h1 := bounds_run (P := P) (cap := cap) ha true hlo hhi hr w
    have h2 := he.size w
    simp only [execOp, ha.eval hx, Instr.sliceAt, Instr.slice, underlying, Sem.run_bind, run_program, Result.andThen_ok, ht.u, Sem.run_pure, Option.map_none, h1, h2]
/-- The beginning of a slice, with its places. -/
theorem y_slc3 {x hi mx : Operand} {t e ty : TypeId} {a0 : Option Addr} {len cap : Nat} {b m : Int} {de : TypeDesc} {sz by' s1 b1 : Nat} {z z1 : Value} (ht : Ty P t (.slice e) s1 b1 z1) (he : Ty P e de sz by' z) (hx : ev ρ x = some (.slice a0 len cap))
    (hhi : ev ρ hi = some (int b)) (hmx : ev ρ mx = some (int m)) (hr : 0 ≤ b ∧ b ≤ m ∧ m ≤ cap) :
    Yl P n ρ F Γ (.slice t x none (some hi) (some mx)) ty (.slice (if m.toNat = 0 then a0 else a0.map (·.add (0 * sz))) b.toNat m.toNat) := fun d pos af g c w ha hw => by
    have hm : 0 ≤ m ∧ m ≤ (cap : Int) := by omega
    have hb : 0 ≤ b ∧ b ≤ (m.toNat : Int) := by omega
    have h2 := he.size w
    simp [execOp, ha.eval hx, Instr.sliceAt, Instr.slice, underlying, ht.u, Instr.sliceBounds, ha.eval hhi, ha.eval hmx, sliceBound_run hm, sliceBound_run hb, h2]
/-- The beginning of a slice that begins at a place. -/
theorem y_sl0 {x hi : Operand} {t e ty : TypeId} {a : Addr} {len cap : Nat} {b : Int} {de : TypeDesc} {sz by' s1 b1 : Nat} {z z1 : Value} (ht : Ty P t (.slice e) s1 b1 z1) (he : Ty P e de sz by' z) (hx : ev ρ x = some (.slice (some a) len cap))
    (hhi : ev ρ hi = some (int b)) (hr : 0 ≤ b ∧ b ≤ cap) :
    Yl P n ρ F Γ (.slice t x none (some hi) none) ty (.slice (some a) b.toNat cap) := by
  have hh : optI ρ (some hi) (len : Int) = some b := by simp [optI, hhi]
  have h := y_slc (n := n) (F := F) (Γ := Γ) (ty := ty) (lo := none) (hi := some hi) (a := 0) (b := b) ht he hx rfl hh (by omega)
  have e1 : (if cap = (0 : Int).toNat then some a else (some a).map (·.add ((0 : Int).toNat * sz))) = some a := by
    split
    · rfl
    · simp [Addr.add]
  rw [e1] at h
  simpa using h

theorem PW.freezeN {Φ : Act → World → Prop} {b : Nat} {o : Obj} (h : ∀ F', Le F F' → F' b = some o → PW X n ρ F' Γ Φ) : PW X n ρ F ((b, o) :: Γ) Φ := PW.freeze (fun hF => h _ hF (fset_self _ _ _))
/-- One result. -/
def RVs (P : Program) (n : Nat) (ρ : Regs) (F : FH) (Γ : Blks) (r : ResultVar) (v : Value) : Prop :=
  ∀ (a : Act) (w : World), Agree n ρ a → Hp F Γ w → ((match r with
    | .tmp t => (pure (a.tmps.getD t undef) : Sem Value)
    | .cell t T => do loadVar T (← asAddr (a.tmps.getD t undef)))).run P w = .ok v w
theorem rv_t {t : Tmp} {v : Value} (h : lk t ρ = some v) : RVs P n ρ F Γ (.tmp t) v := fun a w ha _ => by simp [lkM_spec ha h]
theorem rv_c {t : Tmp} {T : TypeId} {de : TypeDesc} {sz by' : Nat} {z v : Value} {b off : Nat} {c : List Value} {u : TypeId} {fz : Nat × Nat} {C : Obj → Blks} (ht : Ty P T de sz by' z) (hx : lk t ρ = some (.pointer (some ⟨b, off, none⟩)))
    [hA : At Γ b (.cells c.toArray u fz) C] (hv : ldv (isAggD de) sz c off = some v) : RVs P n ρ F Γ (.cell t T) v := fun a w ha hw => by
  have h1 := loadVar_run ht (hA.get hw) hv
  have e := lkM_spec ha hx
  simp only [e, asAddr, Sem.run_bind, Sem.run_pure, Result.andThen_ok, h1]
theorem rv_cF {t : Tmp} {T : TypeId} {de : TypeDesc} {sz by' : Nat} {z v : Value} {b off : Nat} {c : List Value} {u : TypeId} {fz : Nat × Nat} (ht : Ty P T de sz by' z) (hx : lk t ρ = some (.pointer (some ⟨b, off, none⟩)))
    (hF : F b = some (.cells c.toArray u fz)) (hv : ldv (isAggD de) sz c off = some v) : RVs P n ρ F Γ (.cell t T) v := fun a w ha hw => by
  have h1 := loadVar_run ht (hw.fr _ _ hF) hv
  have e := lkM_spec ha hx
  simp only [e, asAddr, Sem.run_bind, Sem.run_pure, Result.andThen_ok, h1]
inductive RVL (P : Program) (n : Nat) (ρ : Regs) (F : FH) (Γ : Blks) : List ResultVar → List Value → Prop
  | nil : RVL P n ρ F Γ [] []
  | cons {r : ResultVar} {v : Value} {rs : List ResultVar} {vs : List Value} : RVs P n ρ F Γ r v → RVL P n ρ F Γ rs vs → RVL P n ρ F Γ (r :: rs) (v :: vs)
theorem RVL.run {a : Act} (ha : Agree n ρ a) {w : World} (hw : Hp F Γ w) (f : ResultVar → Sem Value) (hf : ∀ r, f r = (match r with
    | .tmp t => (pure (a.tmps.getD t undef) : Sem Value)
    | .cell t T => do loadVar T (← asAddr (a.tmps.getD t undef)))) : ∀ {rs : List ResultVar} {vs : List Value}, RVL P n ρ F Γ rs vs → (rs.mapM f).run P w = .ok vs w
  | [], [], _ => by simp
  | r :: rs, v :: vs, .cons h1 h2 => by
    have e1 := h1 a w ha hw
    rw [← hf r] at e1
    have e2 := RVL.run ha hw f hf h2
    simp only [List.mapM_cons, Sem.run_bind, Sem.run_pure, Result.andThen_ok, e1, e2]
/-- Several results, of registers or cells; what is not found is dropped. -/
theorem r_mix {fn : Func} {R : Value → FH → Blks → Prop} {rs : List ResultVar} {u v : Value} {vs : List Value} (E Δ : Blks) (hp : Γ.Perm (E ++ Δ)) (hr : fn.results = rs.toArray) (hv : RVL P n ρ F Γ rs (u :: v :: vs)) (h : R (.tuple (u :: v :: vs).toArray) F Δ) :
    PW X n ρ F Γ (Post P fn X R .ret) :=
  fun a w ha hw => ⟨ha.dz, .tuple (u :: v :: vs).toArray, by
    unfold results
    rw [hr, List.mapM_toArray, Sem.run_bind, Sem.run_map, RVL.run ha hw.hp _ (fun r => by cases r <;> rfl) hv]
    simp, _, F, Δ, rfl, h, (hw.perm hp).right⟩
theorem r_mix0 {fn : Func} {R : Value → FH → Blks → Prop} {rs : List ResultVar} {u v : Value} {vs : List Value} (hr : fn.results = rs.toArray) (hv : RVL P n ρ F Γ rs (u :: v :: vs)) (h : R (.tuple (u :: v :: vs).toArray) F []) :
    PW X n ρ F Γ (Post P fn X R .ret) := r_mix Γ [] (by rw [List.append_nil]) hr hv h
theorem r_mix1 {fn : Func} {R : Value → FH → Blks → Prop} {rs : List ResultVar} {u v : Value} {vs : List Value} (Δ : Blks) {E : Blks} [hs : Sp Γ Δ E] (hr : fn.results = rs.toArray) (hv : RVL P n ρ F Γ rs (u :: v :: vs)) (h : R (.tuple (u :: v :: vs).toArray) F Δ) :
    PW X n ρ F Γ (Post P fn X R .ret) := r_mix E Δ (hs.perm.trans List.perm_append_comm) hr hv h

/-- The place of an element of an array. -/
theorem y_iaA {t e ty : TypeId} {x y : Operand} {m b off : Nat} {i : Int} {k : IntKind} {sz by' sz' by'' : Nat} {z z' : Value} {de : TypeDesc}
    (ht : Ty P t (.array m e) sz' by'' z') (he : Ty P e de sz by' z) (hx : ev ρ x = some (.pointer (some ⟨b, off, none⟩))) (hy : ev ρ y = some (.int k i)) (hi : 0 ≤ i ∧ i < m) :
    Yl P n ρ F Γ (.indexAddr t x y) ty (.pointer (some ⟨b, off + i.toNat * sz, none⟩)) := fun d pos af g a w ha hw => by
    have hsz := he.size w
    simp [execOp, ha.eval hx, ha.eval hy, Instr.indexAt, Instr.sureAddr, asIntOf, underlying, ht.u, hi.1, hi.2, hsz, add_off]

/-- Divisions. -/
theorem y_rem {t u ty : TypeId} {x y : Operand} {a b : Int} (hx : ev ρ x = some (int a)) (hy : ev ρ y = some (int b)) (hb : b ≠ 0) (hr : -9223372036854775808 ≤ a.tmod b ∧ a.tmod b ≤ 9223372036854775807) :
    Yl P n ρ F Γ (.binOp .rem t x y u) ty (int (a.tmod b)) := fun d pos af g c w ha hw => by
  simp [execOp, ha.eval hx, ha.eval hy, eqGuard, binOp, Op.intArith, Op.intBits, Op.intCmp, Op.intDiv, hb, wrap_i64 hr]
theorem y_quo {t u ty : TypeId} {x y : Operand} {a b : Int} (hx : ev ρ x = some (int a)) (hy : ev ρ y = some (int b)) (hb : b ≠ 0) (hr : -9223372036854775808 ≤ a.tdiv b ∧ a.tdiv b ≤ 9223372036854775807) :
    Yl P n ρ F Γ (.binOp .quo t x y u) ty (int (a.tdiv b)) := fun d pos af g c w ha hw => by
  simp [execOp, ha.eval hx, ha.eval hy, eqGuard, binOp, Op.intArith, Op.intBits, Op.intCmp, Op.intDiv, hb, wrap_i64 hr]

/-- Functions and maps held against nil. -/
def isFn (P : Program) (t : TypeId) : Bool := match P.underlying t with
  | some (.func _ _ _) => true
  | _ => false
theorem isFn_spec {t : TypeId} (h : isFn P t = true) : ∃ a b c, P.underlying t = some (.func a b c) := by
  unfold isFn at h
  split at h
  · exact ⟨_, _, _, by assumption⟩
  · cases h
theorem eqIn_func (k : Nat) {t : TypeId} (h : isFn P t = true) (f : Go.Fn) (l c : Array Value) (w : World) : (Op.equalIn (k + 1) t (.func f l c) .nilFunc).run P w = .ok false w := by
  obtain ⟨_, _, _, h⟩ := isFn_spec h
  simp [Op.equalIn, underlying, h]
theorem eqIn_map (k : Nat) {t kt et : TypeId} (h : P.underlying t = some (.map kt et)) (b : Nat) (w : World) : (Op.equalIn (k + 1) t (.map (some b)) (.map none)).run P w = .ok false w := by
  simp [Op.equalIn, underlying, h]
theorem y_feq {t u ty : TypeId} {x : Operand} {f : Go.Fn} {l m : Array Value} (ht : isFn P t = true) (hx : ev ρ x = some (.func f l m)) : Yl P n ρ F Γ (.binOp .eql t x (.const .nilFunc) u) ty (.bool false) := fun d pos af g c w ha hw => by
  have hy : c.eval (.const .nilFunc) = .nilFunc := rfl
  have h2 : (Op.equal t (.func f l m) .nilFunc).run P w = .ok false w := eqIn_func 9999 ht f l m w
  simp [execOp, ha.eval hx, hy, eqGuard, binOp, h2]
theorem y_meq {t kt et u ty : TypeId} {x : Operand} {b : Nat} (ht : P.underlying t = some (.map kt et)) (hx : ev ρ x = some (.map (some b))) : Yl P n ρ F Γ (.binOp .eql t x (.const (.map none)) u) ty (.bool false) := fun d pos af g c w ha hw => by
  have hy : c.eval (.const (.map none)) = .map none := rfl
  have h2 : (Op.equal t (.map (some b)) (.map none)).run P w = .ok false w := eqIn_map 9999 ht b w
  simp [execOp, ha.eval hx, hy, eqGuard, binOp, h2]

/-- A call of a bound function. -/
theorem e_callB {d : Nat} {go : Operand} {args : Array Operand} {ats : Array TypeId} {ty : TypeId} {pos : String} {af : Array Edge} {g : Option (Nat × Bool)} {K : Act → World → Prop} {f : FuncId} {fs vs cs : List Value} {Γ1 Γ2 : Blks} {R : Value → FH → Blks → Prop}
    (hg : ev ρ go = some (.func (.func f) fs.toArray cs.toArray)) (ha : evL ρ args.toList = some vs) (hC : Fn P f (fs ++ vs ++ cs) F Γ1 R) (hp : Γ.Perm (Γ1 ++ Γ2)) (hd : Nat.blt d n = true)
    (k : ∀ v F' Γ', R v F' Γ' → Le F F' → PW X n ((d, v) :: ρ) F' (Γ' ++ Γ2) K) :
    PW X n ρ F Γ (fun a w => (Oper.mk (some d) (.call ⟨.value go, args, ats⟩) ty pos af g).wp P a w K Q) := by
  intro a w hag hw
  unfold Oper.wp
  have e1 : args.map a.eval = vs.toArray := by apply Array.ext'; simpa using hag.evalL ha
  have hr : (execOp a.eval ⟨some d, .call ⟨.value go, args, ats⟩, ty, pos, af, g⟩).run P w = .ok (.enter f (fs ++ vs ++ cs).toArray) w := by
    simp [execOp, resolve, hag.eval hg, Deferred.ofValue, e1, invoke, callFunc_run hC.1]
  rw [hr]
  have hw1 := hw.perm hp
  refine (hC.2 w hw1.start).mono ?_
  rintro e w' ⟨v, F', Γ', rfl, hR, hh⟩
  exact k v F' Γ' hR hh.up _ _ (hag.put hd) (hw1.back hh)
/-- A call, where what it is handed is found by itself. -/
theorem e_callP {d : Nat} {go : Operand} {args : Array Operand} {ats : Array TypeId} {ty : TypeId} {pos : String} {af : Array Edge} {g : Option (Nat × Bool)} {K : Act → World → Prop} {f : FuncId} {vs cs : List Value} (Γ1 : Blks) {Γ2 : Blks} {R : Value → FH → Blks → Prop}
    (hg : ev ρ go = some (.func (.func f) #[] cs.toArray)) (ha : evL ρ args.toList = some vs) (hC : Fn P f (vs ++ cs) F Γ1 R) [hp : Sp Γ Γ1 Γ2] (hd : Nat.blt d n = true)
    (k : ∀ v F' Γ', R v F' Γ' → Le F F' → PW X n ((d, v) :: ρ) F' (Γ' ++ Γ2) K) :
    PW X n ρ F Γ (fun a w => (Oper.mk (some d) (.call ⟨.value go, args, ats⟩) ty pos af g).wp P a w K Q) := e_call hg ha hC hp.perm hd k

/-- A block taken out of a list, by its place. -/
class Tk (Γ : Blks) (b : Nat) (o : outParam Obj) (R : outParam Blks) : Prop where
  perm : Γ.Perm ((b, o) :: R)
instance Tk.here (b : Nat) (o : Obj) (Γ : Blks) : Tk ((b, o) :: Γ) b o Γ := ⟨List.Perm.refl _⟩
instance Tk.there (q : Nat × Obj) (Γ : Blks) (b : Nat) (o : Obj) (R : Blks) [h : Tk Γ b o R] : Tk (q :: Γ) b o (q :: R) := ⟨(h.perm.cons q).trans (List.Perm.swap _ _ _)⟩
instance Tk.app (E Γ : Blks) (b : Nat) (o : Obj) (R : Blks) [h : Tk Γ b o R] : Tk (E ++ Γ) b o (E ++ R) := ⟨(h.perm.append_left E).trans List.perm_middle⟩
instance Tk.left (E Γ : Blks) (b : Nat) (o : Obj) (R : Blks) [h : Tk Γ b o R] : Tk (Γ ++ E) b o (R ++ E) := ⟨h.perm.append_right E⟩
theorem PW.tk {Φ : Act → World → Prop} (b : Nat) {o : Obj} {R : Blks} [h : Tk Γ b o R] (k : PW X n ρ F ((b, o) :: R) Φ) : PW X n ρ F Γ Φ := PW.perm _ h.perm k
theorem perm_end {Δ R : Blks} : (Δ ++ R).Perm (R ++ Δ) := List.perm_append_comm
theorem PW.keep1 {Φ : Act → World → Prop} (b : Nat) {o : Obj} {R : Blks} [h : Tk Γ b o R] (k : PW X n ρ F [(b, o)] Φ) : PW X n ρ F Γ Φ := PW.sub R [(b, o)] (h.perm.trans (perm_end (Δ := [(b, o)]))) k
theorem PW.keep2 {Φ : Act → World → Prop} (b : Nat) (Δ : Blks) {o : Obj} {R R' : Blks} [h : Tk Γ b o R] [h' : Sp R Δ R'] (k : PW X n ρ F ((b, o) :: Δ) Φ) : PW X n ρ F Γ Φ :=
  PW.sub R' ((b, o) :: Δ) (h.perm.trans ((h'.perm.cons _).trans (perm_end (Δ := (b, o) :: Δ)))) k
theorem PW.keep3 {Φ : Act → World → Prop} (b : Nat) (Δ Δ' : Blks) {o : Obj} {R R' R'' : Blks} [h : Tk Γ b o R] [h' : Sp R Δ R'] [h'' : Sp R' Δ' R''] (k : PW X n ρ F ((b, o) :: (Δ ++ Δ')) Φ) : PW X n ρ F Γ Φ :=
  PW.sub R'' ((b, o) :: (Δ ++ Δ')) (h.perm.trans (((h'.perm.trans ((h''.perm.append_left Δ).trans (List.append_assoc Δ Δ' R'' ▸ List.Perm.refl _))).cons _).trans (perm_end (Δ := (b, o) :: (Δ ++ Δ'))))) k
theorem PW.keepT {Φ : Act → World → Prop} (b b' : Nat) (Δ' : Blks) {o o' : Obj} {R R' R'' : Blks} [h : Tk Γ b o R] [h' : Tk R b' o' R'] [h'' : Sp R' Δ' R''] (k : PW X n ρ F ((b, o) :: ([(b', o')] ++ Δ')) Φ) : PW X n ρ F Γ Φ :=
  PW.sub R'' ((b, o) :: (b', o') :: Δ') (h.perm.trans (((h'.perm.trans (h''.perm.cons _)).cons _).trans (perm_end (Δ := (b, o) :: (b', o') :: Δ')))) k
/-- A call whose contract does not speak of the frozen heap; what it is handed is found by itself. -/
theorem e_callKP {d : Nat} {go : Operand} {args : Array Operand} {ats : Array TypeId} {ty : TypeId} {pos : String} {af : Array Edge} {g : Option (Nat × Bool)} {K : Act → World → Prop} {f : FuncId} {vs cs : List Value} (Γ1 : Blks) {Γ2 : Blks} {R : Value → Blks → Prop}
    (hg : ev ρ go = some (.func (.func f) #[] cs.toArray)) (ha : evL ρ args.toList = some vs) (hC : Fn P f (vs ++ cs) F Γ1 (fun v _ Γ' => R v Γ')) [hp : Sp Γ Γ1 Γ2] (hd : Nat.blt d n = true)
    (k : ∀ v Γ', R v Γ' → PW X n ((d, v) :: ρ) F (Γ' ++ Γ2) K) :
    PW X n ρ F Γ (fun a w => (Oper.mk (some d) (.call ⟨.value go, args, ats⟩) ty pos af g).wp P a w K Q) := e_callK hg ha hC hp.perm hd k
/-- The same, of all that there is. -/
theorem e_callKA {d : Nat} {go : Operand} {args : Array Operand} {ats : Array TypeId} {ty : TypeId} {pos : String} {af : Array Edge} {g : Option (Nat × Bool)} {K : Act → World → Prop} {f : FuncId} {vs cs : List Value} {R : Value → Blks → Prop}
    (hg : ev ρ go = some (.func (.func f) #[] cs.toArray)) (ha : evL ρ args.toList = some vs) (hC : Fn P f (vs ++ cs) F Γ (fun v _ Γ' => R v Γ')) (hd : Nat.blt d n = true)
    (k : ∀ v Γ', R v Γ' → PW X n ((d, v) :: ρ) F Γ' K) :
    PW X n ρ F Γ (fun a w => (Oper.mk (some d) (.call ⟨.value go, args, ats⟩) ty pos af g).wp P a w K Q) := e_callK (Γ2 := []) hg ha hC (by rw [List.append_nil]) hd (fun v Γ' h => by rw [List.append_nil]; exact k v Γ' h)
theorem e_callA {d : Nat} {go : Operand} {args : Array Operand} {ats : Array TypeId} {ty : TypeId} {pos : String} {af : Array Edge} {g : Option (Nat × Bool)} {K : Act → World → Prop} {f : FuncId} {vs cs : List Value} {R : Value → FH → Blks → Prop}
    (hg : ev ρ go = some (.func (.func f) #[] cs.toArray)) (ha : evL ρ args.toList = some vs) (hC : Fn P f (vs ++ cs) F Γ R) (hd : Nat.blt d n = true)
    (k : ∀ v F' Γ', R v F' Γ' → Le F F' → PW X n ((d, v) :: ρ) F' Γ' K) :
    PW X n ρ F Γ (fun a w => (Oper.mk (some d) (.call ⟨.value go, args, ats⟩) ty pos af g).wp P a w K Q) := e_call (Γ2 := []) hg ha hC (by rw [List.append_nil]) hd (fun v F' Γ' h hl => by rw [List.append_nil]; exact k v F' Γ' h hl)

theorem upd_all {zs news : List Value} (h : zs.length = news.length) : upd zs 0 news = some news := by
  have := upd_app [] zs news (by omega)
  simpa [List.drop_of_length_le (show zs.length ≤ news.length by omega)] using this
/-- A slice of zeros, of whose cells the number is known. -/
theorem e_mkL {d : Nat} {t e ty : TypeId} {x y : Operand} {pos : String} {af : Array Edge} {g : Option (Nat × Bool)} {K : Act → World → Prop} {k : Nat} {de : TypeDesc} {sz by' s1 b1 : Nat} {z1 z2 : Value}
    (ht : Ty P t (.slice e) s1 b1 z1) (he : Ty P e de sz by' z2) (hx : ev ρ x = some (int k)) (hy : ev ρ y = some (int k)) (hk : by' * k ≤ 1048576) (hk' : k ≤ 1048576) (hd : Nat.blt d n = true)
    (kk : ∀ (b : Nat) (zs : List Value), zs.length = k * sz → PW X n ((d, .slice (some ⟨b, 0, none⟩) k k) :: ρ) F ((b, .cells (List.toArray zs) e (0, 0)) :: Γ) K) : PW X n ρ F Γ (fun a w => (Oper.mk (some d) (.makeSlice t x y) ty pos af g).wp P a w K Q) :=
  e_new (S := fun v F' Γ' => ∃ (b : Nat) (zs : List Value), zs.length = k * sz ∧ v = .slice (some ⟨b, 0, none⟩) k k ∧ F' = F ∧ Γ' = (b, .cells (List.toArray zs) e (0, 0)) :: Γ) hd
    (fun a w ha hw => by
      have h1 := ht.u
      have h3 := he.zero w
      have h4 := he.size w
      obtain ⟨i, hi, -, hib, -⟩ := he.i
      have hwr : IntKind.wrap .i64 (k : Int) = k := wrap_i64 (by omega)
      have a1 : ((k : Int) < 0) = False := by simp
      have a2 : ((by' : Int) * k > 2 ^ 48) = False := by
        have : ((by' * k : Nat) : Int) ≤ (1048576 : Nat) := Int.ofNat_le.2 hk
        rw [Int.natCast_mul] at this
        exact eq_false (Int.not_lt.2 (Int.le_trans this (by decide)))
      have a3 : ((k : Int) > k) = False := by simp
      have hroom : (askRoom (k * by')).run P w = .ok () w := by
        have : ¬ (k * by' > roomBytes) := by rw [Nat.mul_comm]; simp only [roomBytes]; omega
        simp [askRoom, this]
      have hx' : asInt (.int .i64 k) = (pure (k : Int) : Sem Int) := rfl
      refine ⟨_, _, _, _, ?_, ⟨w.heap.size, (if k * sz = 0 then ((Array.range (k * sz)).map fun i => (#[] : Array Value)[i % (#[] : Array Value).size]!).toList else ((Array.range (k * sz)).map (z2.cells[· % z2.cells.size]!)).toList), ?_, rfl, rfl, rfl⟩, hw.push _⟩
      · simp only [execOp, ha.eval hx, ha.eval hy, Instr.makeSlice, Sem.run_bind, Result.andThen_ok, underlying, run_program, h1, Sem.run_pure, hx', typeInfo, hi, hib, hwr, hroom, Int.toNat_natCast, h4]
        simp only [a1, a2, a3, decide_false, Bool.or_false, Bool.false_eq_true, if_false, Sem.run_bind, hroom, Result.andThen_ok, h4]
        by_cases h0 : k * sz = 0
        · simp only [h0, if_true, Sem.run_bind, Sem.run_pure, Result.andThen_ok, newRow]
          rfl
        · simp only [h0, if_false, Sem.run_bind, h3, Result.andThen_ok, Sem.run_pure, newRow]
          rfl
      · split <;> simp)
    (by rintro _ _ _ ⟨b, zs, hz, rfl, rfl, rfl⟩; exact kk b zs hz)
/-- copy of frozen elements into a whole block. -/
theorem e_copy {d : Nat} {x y : Operand} {t tx e ty : TypeId} {pos : String} {af : Array Edge} {g : Option (Nat × Bool)} {K : Act → World → Prop} {u : Value} {b len cap k : Nat} {sz by' : Nat} {c c' news : List Value} {z z1 : Value} {de : TypeDesc} {s1 b1 : Nat} {uu : TypeId} {C : Obj → Blks}
    (ht : Ty P t (.slice e) s1 b1 z1) (he : Ty P e de sz by' z) (hx : ev ρ x = some (.slice (some ⟨b, 0, none⟩) len cap)) (hy : ev ρ y = some u) [hA : At Γ b (.cells c.toArray uu (0, 0)) C] (hS : Src P F Γ sz u k news) (hk : k ≤ len)
    (hfl : flatL news = true) (hu : upd c 0 news = some c') (hd : Nat.blt d n = true)
    (kk : PW X n ((d, int k) :: ρ) F (C (.cells c'.toArray uu (0, 0))) K) :
    PW X n ρ F Γ (fun a w => (Oper.mk (some d) (.call ⟨.builtin .copy, #[x, y], #[t, tx]⟩) ty pos af g).wp P a w K Q) := by
  refine e_new (S := fun v' F' Γ' => v' = int k ∧ F' = F ∧ Γ' = C (.cells c'.toArray uu (0, 0))) hd (fun a w ha hw => ?_) (by rintro v' _ _ ⟨rfl, rfl, rfl⟩; exact kk)
  obtain ⟨hnews, hS⟩ := hS
  obtain ⟨hS1, hS2⟩ := hS w hw.hp
  have hst := storeCells_run (P := P) (b := b) (u := uu) (fz := (0, 0)) 0 news 0 c c' w hfl (hA.get hw.hp) hu (fun j _ _ h => by simp at h)
  have hmin : Nat.min k len = k := Nat.min_eq_left hk
  refine ⟨_, F, _, _, ?_, ⟨rfl, rfl, rfl⟩, At.set (h := hA) hw⟩
  simp [execOp, resolve, ha.eval hx, ha.eval hy, invoke, builtin, Builtin.copy_, run_underlying ht.u, he.size, hS1, hS2, hmin, hst]
  rfl
end

/-! Maps by keys of a kind. -/
section
variable {κ : Type} [DecidableEq κ]
def EsK (kv : κ → Value) (m : List (κ × Value × Nat)) : Array MapEntry := (m.map fun x => (⟨kv x.1, x.2.1, x.2.2⟩ : MapEntry)).toArray
def fnd : List (κ × Value × Nat) → κ → Option Value
  | [], _ => none
  | (k, v, _) :: r, x => if x = k then some v else fnd r x
def atM (m : List (κ × Value × Nat)) (x : κ) : Option Nat := m.findIdx? (fun y => decide (x = y.1))
def putM (m : List (κ × Value × Nat)) (c : Nat) (k : κ) (v : Value) : List (κ × Value × Nat) := match atM m k with
  | some j => m.modify j fun y => (k, v, y.2.2)
  | none => m ++ [(k, v, c)]
def putC (m : List (κ × Value × Nat)) (c : Nat) (k : κ) : Nat := match atM m k with
  | some _ => c
  | none => c + 1
theorem fnd_eq (x : κ) : ∀ (m : List (κ × Value × Nat)), fnd m x = (match atM m x with
      | some j => (m[j]?).map fun y => y.2.1
      | none => none)
  | [] => rfl
  | (k, v, b) :: m => by
    have ih := fnd_eq x m
    unfold atM at *
    simp only [fnd, List.findIdx?_cons]
    by_cases hxk : x = k
    · simp [hxk]
    · simp only [hxk, if_false, ih, decide_false, Bool.false_eq_true]
      cases m.findIdx? (fun y => decide (x = y.1)) <;> simp
theorem fnd_app (k : κ) (v : Value) (c : Nat) (x : κ) : ∀ (m : List (κ × Value × Nat)), fnd m k = none → fnd (m ++ [(k, v, c)]) x = if x = k then some v else fnd m x
  | [], _ => by simp [fnd]
  | (j, u, b) :: m, h => by
    simp only [fnd] at h
    split at h
    · cases h
    · rename_i hne
      simp only [List.cons_append, fnd, fnd_app k v c x m h]
      by_cases hxj : x = j
      · simp [hxj, Ne.symm hne]
      · simp [hxj]
theorem fnd_mod (k : κ) (v : Value) (x : κ) : ∀ (m : List (κ × Value × Nat)) (j : Nat), m.findIdx? (fun y => decide (k = y.1)) = some j →
    fnd (m.modify j fun y => (k, v, y.2.2)) x = if x = k then some v else fnd m x
  | [], j, h => by simp at h
  | (i, u, b) :: m, j, h => by
    rw [List.findIdx?_cons] at h
    by_cases hki : k = i
    · subst hki
      simp at h
      subst h
      simp only [List.modify_cons, fnd, if_true]
      by_cases hx : x = k <;> simp [hx]
    · simp only [hki, decide_false, Bool.false_eq_true, if_false] at h
      cases hj : m.findIdx? (fun y => decide (k = y.1)) with
      | none => simp [hj] at h
      | some q =>
        simp [hj] at h
        subst h
        simp only [List.modify_succ_cons, fnd, fnd_mod k v x m q hj]
        by_cases hxi : x = i
        · have : x ≠ k := by rw [hxi]; exact Ne.symm hki
          simp [hxi, Ne.symm hki]
        · simp [hxi]
theorem fnd_none {m : List (κ × Value × Nat)} {k : κ} (h : atM m k = none) : fnd m k = none := by rw [fnd_eq, h]
theorem atM_lt {m : List (κ × Value × Nat)} {k : κ} {j : Nat} (h : atM m k = some j) : j < m.length := (List.findIdx?_eq_some_iff_getElem.1 h).1
theorem fnd_some {m : List (κ × Value × Nat)} {k : κ} {j : Nat} (h : atM m k = some j) : (fnd m k).isSome = true := by
  rw [fnd_eq, h]; simp [atM_lt h]
/-- What is found behind a store. -/
theorem fnd_put (m : List (κ × Value × Nat)) (c : Nat) (k : κ) (v : Value) (x : κ) : fnd (putM m c k v) x = if x = k then some v else fnd m x := by
  unfold putM
  cases h : atM m k with
  | none => exact fnd_app k v c x m (fnd_none h)
  | some j => exact fnd_mod k v x m j h
theorem put_len (m : List (κ × Value × Nat)) (c : Nat) (k : κ) (v : Value) : (putM m c k v).length = if (fnd m k).isSome = true then m.length else m.length + 1 := by
  unfold putM
  cases h : atM m k with
  | none => simp [fnd_none h]
  | some j => simp [fnd_some h]
/-- Births are behind the clock. -/
def Born (m : List (κ × Value × Nat)) (c : Nat) : Prop := ∀ y ∈ m, y.2.2 < c
theorem Born.put {m : List (κ × Value × Nat)} {c : Nat} (h : Born m c) (k : κ) (v : Value) : Born (putM m c k v) (putC m c k) := by
  unfold putM putC
  cases ha : atM m k with
  | none =>
    intro y hy
    rcases List.mem_append.1 hy with hy | hy
    · exact Nat.lt_succ_of_lt (h y hy)
    · rw [List.mem_singleton.1 hy]; exact Nat.lt_succ_self c
  | some j =>
    intro y hy
    obtain ⟨i, hi, rfl⟩ := List.getElem_of_mem hy
    simp only [List.length_modify] at hi
    simp only [List.getElem_modify]
    have := h m[i] (List.getElem_mem hi)
    split <;> simpa using this

/-- What a kind of keys must bear. -/
structure KeyK (P : Program) (kt : TypeId) (kv : κ → Value) : Prop where
  find : ∀ (x : κ) (m : List (κ × Value × Nat)) (w : World), (Instr.findKey kt (kv x) (EsK kv m).toList).run P w = .ok (match atM m x with
      | some j => (m[j]?).map fun y => (j, y.2.1)
      | none => none) w
  chk : ∀ (e : Bool) (x : κ) (w : World), (Instr.checkKey e 10000 kt (kv x)).run P w = .ok () w
  stay : ∀ (x : κ) (w : World), (Instr.keyThatStays (kv x) (kv x)).run P w = .ok (kv x) w
end

theorem findNow_int (q k0 : IntKind) (x : Int) : ∀ (m : List (Int × Value × Nat)) (i : Nat),
    Instr.findNow (.int q) (.int k0 x) (m.map fun x => (⟨.int k0 x.1, x.2.1, x.2.2⟩ : MapEntry)) i = some (match m.findIdx? (fun y => decide (x = y.1)) with
      | some j => (m[j]?).map fun y => (i + j, y.2.1)
      | none => none)
  | [], i => rfl
  | (k, v, b) :: m, i => by
    have h : (x == k) = decide (x = k) := rfl
    simp only [List.map_cons, Instr.findNow, Instr.sameNow, if_true, h]
    by_cases hxk : x = k
    · simp [hxk, List.findIdx?_cons]
    · simp only [hxk, decide_false, findNow_int q k0 x m (i + 1), List.findIdx?_cons]
      simp only [decide_eq_true_eq, hxk, if_false, Bool.false_eq_true]
      cases m.findIdx? (fun y => decide (x = y.1)) with
      | none => simp
      | some j => simp [Nat.add_comm, Nat.add_left_comm, Nat.add_assoc]
theorem checkKey_int (q : Nat) {P : Program} {kt : TypeId} {k : IntKind} (h : P.underlying kt = some (.int k)) (e : Bool) (x : Value) (w : World) : (Instr.checkKey e (q + 1) kt x).run P w = .ok () w := by
  simp [Instr.checkKey, underlying, h]
theorem sameBits_int (k : IntKind) (x : Int) : Instr.sameBits 10000 (.int k x) (.int k x) = true := by
  show Instr.sameBits (9999 + 1) (.int k x) (.int k x) = true
  simp [Instr.sameBits]
theorem kkInt {P : Program} {kt : TypeId} {k : IntKind} (k0 : IntKind) (h : P.underlying kt = some (.int k)) : KeyK P kt (fun x : Int => .int k0 x) where
  find := fun x m w => by
    have h1 := findNow_int k k0 x m 0
    simp only [Nat.zero_add] at h1
    have h2 : (EsK (fun x : Int => Value.int k0 x) m).toList = m.map fun x => (⟨.int k0 x.1, x.2.1, x.2.2⟩ : MapEntry) := rfl
    unfold Instr.findKey atM
    simp only [underlying, Sem.run_bind, run_program, Result.andThen_ok, h, Sem.run_pure, h2, h1]
  chk := fun e x w => checkKey_int 9999 h e _ w
  stay := fun x w => by simp [Instr.keyThatStays, sameBits_int]
theorem kkStr {P : Program} {kt : TypeId} (h : P.underlying kt = some .string) : KeyK P kt str where
  find := fun x m w => findKey_str h x m w
  chk := fun e x w => checkKey_str h e x w
  stay := fun x w => by simp [Instr.keyThatStays, sameBits_str]

section
variable {P : Program} {X : Cx} {n : Nat} {ρ : Regs} {F : FH} {Γ : Blks} {Q : Exit → Act → World → Prop} {κ : Type} {kv : κ → Value}

/-- The entries of a map: in the walk's own blocks, or frozen. -/
theorem look_run [DecidableEq κ] {t kt et : TypeId} {b clock : Nat} {k : κ} {m : List (κ × Value × Nat)} {z : Value} {sz by' : Nat} {de : TypeDesc} {w : World} (ok : Bool)
    (ht : P.underlying t = some (.map kt et)) (hk : KeyK P kt kv) (he : Ty P et de sz by' z) (hb : w.heap[b]? = some (.map (EsK kv m) clock)) :
    (Instr.lookup t (.map (some b)) (kv k) ok).run P w = .ok (if ok = true then .tuple #[(fnd m k).getD z, .bool (fnd m k).isSome] else (fnd m k).getD z) w := by
  have hg : (getObj b).run P w = .ok (.map (EsK kv m) clock) w := by simp [getObj, Sem.run, hb]
  have hz := he.zero w
  have h1 := hk.find k m w
  have h2 := hk.chk (EsK kv m).isEmpty k w
  simp only [Instr.lookup, underlying, Sem.run_bind, run_program, Result.andThen_ok, ht, Sem.run_pure, hg, h1, h2]
  rw [fnd_eq]
  cases hf : atM m k with
  | none => simp [hz]
  | some j =>
    have hj := atM_lt hf
    simp [hj]
theorem y_lookK [DecidableEq κ] {t kt et ty : TypeId} {x y : Operand} {b clock : Nat} {k : κ} {m : List (κ × Value × Nat)} {C : Obj → Blks} {z : Value} {sz by' : Nat} {de : TypeDesc}
    (ht : P.underlying t = some (.map kt et)) (hk : KeyK P kt kv) (he : Ty P et de sz by' z) (hx : ev ρ x = some (.map (some b))) (hy : ev ρ y = some (kv k)) [hA : At Γ b (.map (EsK kv m) clock) C] :
    Yl P n ρ F Γ (.lookup t x y false) ty ((fnd m k).getD z) := fun d pos af g a w ha hw => by
  have h := look_run (k := k) false ht hk he (hA.get hw)
  simp [execOp, ha.eval hx, ha.eval hy, h]
theorem y_lookKo [DecidableEq κ] {t kt et ty : TypeId} {x y : Operand} {b clock : Nat} {k : κ} {m : List (κ × Value × Nat)} {C : Obj → Blks} {z : Value} {sz by' : Nat} {de : TypeDesc}
    (ht : P.underlying t = some (.map kt et)) (hk : KeyK P kt kv) (he : Ty P et de sz by' z) (hx : ev ρ x = some (.map (some b))) (hy : ev ρ y = some (kv k)) [hA : At Γ b (.map (EsK kv m) clock) C] :
    Yl P n ρ F Γ (.lookup t x y true) ty (.tuple #[(fnd m k).getD z, .bool (fnd m k).isSome]) := fun d pos af g a w ha hw => by
  have h := look_run (k := k) true ht hk he (hA.get hw)
  simp [execOp, ha.eval hx, ha.eval hy, h]
theorem y_lenM {t kt et ty : TypeId} {x : Operand} {b clock : Nat} {m : List (κ × Value × Nat)} {C : Obj → Blks} (ht : P.underlying t = some (.map kt et)) (hx : ev ρ x = some (.map (some b))) [hA : At Γ b (.map (EsK kv m) clock) C] :
    Yl P n ρ F Γ (.call ⟨.builtin .len, #[x], #[t]⟩) ty (int m.length) := fun d pos af g a w ha hw => by
  have hb := hA.get hw
  have hg : (getObj b).run P w = .ok (.map (EsK kv m) clock) w := by simp [getObj, Sem.run, hb]
  simp [execOp, resolve, ha.eval hx, invoke, builtin, Builtin.len_, underlying, ht, hg, goInt, EsK]

/-- A store. -/
theorem e_putK [DecidableEq κ] {t kt et ty : TypeId} {x y z : Operand} {pos : String} {af : Array Edge} {g : Option (Nat × Bool)} {K : Act → World → Prop} {b clock : Nat} {k : κ} {v : Value} {m : List (κ × Value × Nat)} {C : Obj → Blks}
    (ht : P.underlying t = some (.map kt et)) (hk : KeyK P kt kv) (hx : ev ρ x = some (.map (some b))) (hy : ev ρ y = some (kv k)) (hz : ev ρ z = some v) [hA : At Γ b (.map (EsK kv m) clock) C]
    (kk : PW X n ρ F (C (.map (EsK kv (putM m clock k v)) (putC m clock k))) K) : PW X n ρ F Γ (fun a w => (Oper.mk none (.mapUpdate t x y z) ty pos af g).wp P a w K Q) := by
  refine e_unit (F' := F) (Γ' := C (.map (EsK kv (putM m clock k v)) (putC m clock k))) (fun a w ha hw => ⟨_, ?_, At.set (h := hA) hw⟩) kk
  have hb := hA.get hw.hp
  have hg : (getObj b).run P w = .ok (.map (EsK kv m) clock) w := by simp [getObj, Sem.run, hb]
  have h1 := hk.find k m w
  have h2 := hk.chk false k w
  cases hf : atM m k with
  | none =>
    rw [hf] at h1
    have h4 : (EsK kv m).push ⟨kv k, v, clock⟩ = EsK kv (m ++ [(k, v, clock)]) := by simp [EsK]
    have hs : (setObj b (.map (EsK kv (m ++ [(k, v, clock)])) (clock + 1))).run P w = .ok () { w with heap := w.heap.setIfInBounds b (.map (EsK kv (m ++ [(k, v, clock)])) (clock + 1)) } := by simp [setObj, Sem.run, hb]
    simp only [execOp, ha.eval hx, ha.eval hy, ha.eval hz, Instr.mapUpdate, underlying, Sem.run_bind, run_program, Result.andThen_ok, ht, Sem.run_pure, hg, h1, h2, h4, hs, putM, putC, hf]
  | some j =>
    obtain ⟨hj, hkj, -⟩ := List.findIdx?_eq_some_iff_getElem.1 hf
    have hkj' : k = m[j].1 := by simpa using hkj
    rw [hf] at h1
    simp only [List.getElem?_eq_getElem hj, Option.map_some] at h1
    have h3 : (EsK kv m)[j]? = some ⟨kv k, m[j].2.1, m[j].2.2⟩ := by simp [EsK, hj, ← hkj']
    have h4 : (EsK kv m).modify j (fun e => { e with key := kv k, val := v }) = EsK kv (m.modify j fun y => (k, v, y.2.2)) := by
      apply Array.toList_inj.1
      simp only [EsK, Array.toList_modify]
      apply List.ext_getElem?
      intro i
      simp only [List.getElem?_modify, List.getElem?_map]
      by_cases hij : j = i
      · subst hij; simp [hj]
      · simp [hij]
    have h5 : (Instr.keyThatStays (((((EsK kv m)[j]?).map (·.key)).getD (kv k))) (kv k)).run P w = .ok (kv k) w := by rw [h3]; exact hk.stay k w
    have hs : (setObj b (.map (EsK kv (m.modify j fun y => (k, v, y.2.2))) clock)).run P w = .ok () { w with heap := w.heap.setIfInBounds b (.map (EsK kv (m.modify j fun y => (k, v, y.2.2))) clock) } := by simp [setObj, Sem.run, hb]
    simp only [execOp, ha.eval hx, ha.eval hy, ha.eval hz, Instr.mapUpdate, underlying, Sem.run_bind, run_program, Result.andThen_ok, ht, Sem.run_pure, hg, h1, h2, h5, h4, hs, putM, putC, hf]

/-- An entry that is to be written. -/
theorem e_ent [DecidableEq κ] {d : Nat} {t kt et ty : TypeId} {x y : Operand} {pos : String} {af : Array Edge} {g : Option (Nat × Bool)} {K : Act → World → Prop} {b clock : Nat} {k : κ} {m : List (κ × Value × Nat)} {C : Obj → Blks} {z : Value} {sz by' : Nat} {de : TypeDesc}
    (ht : P.underlying t = some (.map kt et)) (hk : KeyK P kt kv) (he : Ty P et de sz by' z) (hx : ev ρ x = some (.map (some b))) (hy : ev ρ y = some (kv k)) [hA : At Γ b (.map (EsK kv m) clock) C] (hn : fnd m k = none) (hd : Nat.blt d n = true)
    (kk : PW X n ((d, .tuple #[z, int clock]) :: ρ) F (C (.map (EsK kv (m ++ [(k, z, clock)])) (clock + 1))) K) : PW X n ρ F Γ (fun a w => (Oper.mk (some d) (.mapEntry t x y) ty pos af g).wp P a w K Q) := by
  refine e_new (S := fun v' F' Γ' => v' = .tuple #[z, int clock] ∧ F' = F ∧ Γ' = C (.map (EsK kv (m ++ [(k, z, clock)])) (clock + 1))) hd (fun a w ha hw => ⟨_, F, _, _, ?_, ⟨rfl, rfl, rfl⟩, At.set (h := hA) hw⟩) (by rintro _ _ _ ⟨rfl, rfl, rfl⟩; exact kk)
  have hb := hA.get hw.hp
  have hg : (getObj b).run P w = .ok (.map (EsK kv m) clock) w := by simp [getObj, Sem.run, hb]
  have h1 := hk.find k m w
  have h2 := hk.chk false k w
  have hz := he.zero w
  have hf : atM m k = none := by
    cases hf : atM m k with
    | none => rfl
    | some j => have := fnd_some hf; rw [hn] at this; cases this
  rw [hf] at h1
  have h4 : (EsK kv m).push ⟨kv k, z, clock⟩ = EsK kv (m ++ [(k, z, clock)]) := by simp [EsK]
  have hs : (setObj b (.map (EsK kv (m ++ [(k, z, clock)])) (clock + 1))).run P w = .ok () { w with heap := w.heap.setIfInBounds b (.map (EsK kv (m ++ [(k, z, clock)])) (clock + 1)) } := by simp [setObj, Sem.run, hb]
  simp only [execOp, ha.eval hx, ha.eval hy, Instr.mapEntry, underlying, Sem.run_bind, run_program, Result.andThen_ok, ht, Sem.run_pure, hg, h1, h2, hz, h4, hs]
  rfl
theorem e_entSt {t ty : TypeId} {x y z : Operand} {pos : String} {af : Array Edge} {g : Option (Nat × Bool)} {K : Act → World → Prop} {b clock c' : Nat} {k : κ} {v u : Value} {m : List (κ × Value × Nat)} {C : Obj → Blks}
    (hx : ev ρ x = some (.map (some b))) (hy : ev ρ y = some (int clock)) (hz : ev ρ z = some v) [hA : At Γ b (.map (EsK kv (m ++ [(k, u, clock)])) c') C] (hB : Born m clock)
    (kk : PW X n ρ F (C (.map (EsK kv (m ++ [(k, v, clock)])) c')) K) : PW X n ρ F Γ (fun a w => (Oper.mk none (.entryStore t x y z) ty pos af g).wp P a w K Q) := by
  refine e_unit (F' := F) (Γ' := C (.map (EsK kv (m ++ [(k, v, clock)])) c')) (fun a w ha hw => ⟨_, ?_, At.set (h := hA) hw⟩) kk
  have hb := hA.get hw.hp
  have hg : (getObj b).run P w = .ok (.map (EsK kv (m ++ [(k, u, clock)])) c') w := by simp [getObj, Sem.run, hb]
  have hf : (EsK kv (m ++ [(k, u, clock)])).findIdx? (fun e => (e.born : Int) == (clock : Int)) = some m.length := by
    simp only [EsK, List.findIdx?_toArray]
    rw [List.findIdx?_eq_some_iff_getElem]
    refine ⟨by simp, by simp, fun j hj => ?_⟩
    have hjm : j < m.length := by simpa using hj
    have := hB m[j] (List.getElem_mem hjm)
    simp [List.getElem_append, hjm]
    omega
  have h4 : (EsK kv (m ++ [(k, u, clock)])).modify m.length (fun e => { e with val := v }) = EsK kv (m ++ [(k, v, clock)]) := by
    apply Array.toList_inj.1
    simp only [EsK, Array.toList_modify, List.map_append, List.map_cons, List.map_nil]
    rw [List.modify_eq_take_cons_drop (by simp)]
    simp
  have hs : (setObj b (.map (EsK kv (m ++ [(k, v, clock)])) c')).run P w = .ok () { w with heap := w.heap.setIfInBounds b (.map (EsK kv (m ++ [(k, v, clock)])) c') } := by simp [setObj, Sem.run, hb]
  have hint : asInt (int clock) = (pure (clock : Int) : Sem Int) := rfl
  simp only [execOp, ha.eval hx, ha.eval hy, ha.eval hz, Instr.entryStore, Sem.run_bind, Result.andThen_ok, Sem.run_pure, hg, hint, hf, h4, hs]
end
/-- A map without entries. -/
theorem EsK_nil {κ : Type} (kv : κ → Value) : (EsK kv ([] : List (κ × Value × Nat))) = Es [] := rfl
end Go.SL
