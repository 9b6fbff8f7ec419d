/- Results of several kinds; maps by keys of any kind; copies; arrays' places; bound calls. No condition. -/
import Derived.Test.YtgefikehhcgdnaaGreatDoorFld
namespace Go.SL

section
variable {P : Program} {X : Cx} {n : Nat} {ρ : Regs} {F : FH} {Γ : Blks} {Q : Exit → Act → World → Prop}

/-- A part of a slice. -/
theorem y_slc {x : Operand} {lo hi : Option Operand} {t e ty : TypeId} {a0 : Option Addr} {len cap : Nat} {a b : Int} {de : TypeDesc} {sz by' s1 b1 : Nat} {z z1 : Value} (ht : Ty P t (.slice e) s1 b1 z1) (he : Ty P e de sz by' z) (hx : ev ρ x = some (.slice a0 len cap))
    (hlo : optI ρ lo 0 = some a) (hhi : optI ρ hi len = some b) (hr : 0 ≤ a ∧ a ≤ b ∧ b ≤ cap) :
    Yl P n ρ F Γ (.slice t x lo hi none) ty (.slice (if cap = a.toNat then a0 else a0.map (·.add (a.toNat * sz))) (b.toNat - a.toNat) (cap - a.toNat)) := fun d pos af g c w ha hw => by
    have h1 := bounds_run (P := P) (cap := cap) ha true hlo hhi hr w
    have h2 := he.size w
    simp only [execOp, ha.eval hx, Instr.sliceAt, Instr.slice, underlying, Sem.run_bind, run_program, Result.andThen_ok, ht.u, Sem.run_pure, Option.map_none, h1, h2]
/-- The beginning of a slice, with its places. -/
theorem y_slc3 {x hi mx : Operand} {t e ty : TypeId} {a0 : Option Addr} {len cap : Nat} {b m : Int} {de : TypeDesc} {sz by' s1 b1 : Nat} {z z1 : Value} (ht : Ty P t (.slice e) s1 b1 z1) (he : Ty P e de sz by' z) (hx : ev ρ x = some (.slice a0 len cap))
    (hhi : ev ρ hi = some (int b)) (hmx : ev ρ mx = some (int m)) (hr : 0 ≤ b ∧ b ≤ m ∧ m ≤ cap) :
    Yl P n ρ F Γ (.slice t x none (some hi) (some mx)) ty (.slice (if m.toNat = 0 then a0 else a0.map (·.add (0 * sz))) b.toNat m.toNat) := fun d pos af g c w ha hw => by
    have hm : 0 ≤ m ∧ m ≤ (cap : Int) := by omega
    have hb : 0 ≤ b ∧ b ≤ (m.toNat : Int) := by omega
    have h2 := he.size w
    simp [execOp, ha.eval hx, Instr.sliceAt, Instr.slice, underlying, ht.u, Instr.sliceBounds, ha.eval hhi, ha.eval hmx, sliceBound_run hm, sliceBound_run hb, h2]
/-- The beginning of a slice that begins at a place. -/
theorem y_sl0 {x hi : Operand} {t e ty : TypeId} {a : Addr} {len cap : Nat} {b : Int} {de : TypeDesc} {sz by' s1 b1 : Nat} {z z1 : Value} (ht : Ty P t (.slice e) s1 b1 z1) (he : Ty P e de sz by' z) (hx : ev ρ x = some (.slice (some a) len cap))
    (hhi : ev ρ hi = some (int b)) (hr : 0 ≤ b ∧ b ≤ cap) :
    Yl P n ρ F Γ (.slice t x none (some hi) none) ty (.slice (some a) b.toNat cap) := by
  have hh : optI ρ (some hi) (len : Int) = some b := by simp [optI, hhi]
  have h := y_slc (n := n) (F := F) (Γ := Γ) (ty := ty) (lo := none) (hi := some hi) (a := 0) (b := b) ht he hx rfl hh (by omega)
  have e1 : (if cap = (0 : Int).toNat then some a else (some a).map (·.add ((0 : Int).toNat * sz))) = some a := by
    split
    · rfl
    · simp [Addr.add]
  rw [e1] at h
  simpa using h

/-- One result. -/
def RVs (P : Program) (n : Nat) (ρ : Regs) (F : FH) (Γ : Blks) (r : ResultVar) (v : Value) : Prop :=
  ∀ (a : Act) (w : World), Agree n ρ a → Hp F Γ w → ((match r with
    | .tmp t => (pure (a.tmps.getD t undef) : Sem Value)
    | .cell t T => do loadVar T (← asAddr (a.tmps.getD t undef)))).run P w = .ok v w
theorem rv_t {t : Tmp} {v : Value} (h : lk t ρ = some v) : RVs P n ρ F Γ (.tmp t) v := fun a w ha _ => by simp [lkM_spec ha h]
theorem rv_c {t : Tmp} {T : TypeId} {de : TypeDesc} {sz by' : Nat} {z v : Value} {b off : Nat} {c : List Value} {u : TypeId} {fz : Nat × Nat} {C : Obj → Blks} (ht : Ty P T de sz by' z) (hx : lk t ρ = some (.pointer (some ⟨b, off, none⟩)))
    [hA : At Γ b (.cells c.toArray u fz) C] (hv : ldv (isAggD de) sz c off = some v) : RVs P n ρ F Γ (.cell t T) v := fun a w ha hw => by
  have h1 := loadVar_run ht (hA.get hw) hv
  have e := lkM_spec ha hx
  simp only [e, asAddr, Sem.run_bind, Sem.run_pure, Result.andThen_ok, h1]
theorem rv_cF {t : Tmp} {T : TypeId} {de : TypeDesc} {sz by' : Nat} {z v : Value} {b off : Nat} {c : List Value} {u : TypeId} {fz : Nat × Nat} (ht : Ty P T de sz by' z) (hx : lk t ρ = some (.pointer (some ⟨b, off, none⟩)))
    (hF : F b = some (.cells c.toArray u fz)) (hv : ldv (isAggD de) sz c off = some v) : RVs P n ρ F Γ (.cell t T) v := fun a w ha hw => by
  have h1 := loadVar_run ht (hw.fr _ _ hF) hv
  have e := lkM_spec ha hx
  simp only [e, asAddr, Sem.run_bind, Sem.run_pure, Result.andThen_ok, h1]
inductive RVL (P : Program) (n : Nat) (ρ : Regs) (F : FH) (Γ : Blks) : List ResultVar → List Value → Prop
  | nil : RVL P n ρ F Γ [] []
  | cons {r : ResultVar} {v : Value} {rs : List ResultVar} {vs : List Value} : RVs P n ρ F Γ r v → RVL P n ρ F Γ rs vs → RVL P n ρ F Γ (r :: rs) (v :: vs)
theorem RVL.run {a : Act} (ha : Agree n ρ a) {w : World} (hw : Hp F Γ w) (f : ResultVar → Sem Value) (hf : ∀ r, f r = (match r with
    | .tmp t => (pure (a.tmps.getD t undef) : Sem Value)
    | .cell t T => do loadVar T (← asAddr (a.tmps.getD t undef)))) : ∀ {rs : List ResultVar} {vs : List Value}, RVL P n ρ F Γ rs vs → (rs.mapM f).run P w = .ok vs w
  | [], [], _ => by simp
  | r :: rs, v :: vs, .cons h1 h2 => by
    have e1 := h1 a w ha hw
    rw [← hf r] at e1
    have e2 := RVL.run ha hw f hf h2
    simp only [List.mapM_cons, Sem.run_bind, Sem.run_pure, Result.andThen_ok, e1, e2]
/-- Several results, of registers or cells; what is not found is dropped. -/
theorem r_mix {fn : Func} {R : Value → FH → Blks → Prop} {rs : List ResultVar} {u v : Value} {vs : List Value} (E Δ : Blks) (hp : Γ.Perm (E ++ Δ)) (hr : fn.results = rs.toArray) (hv : RVL P n ρ F Γ rs (u :: v :: vs)) (h : R (.tuple (u :: v :: vs).toArray) F Δ) :
    PW X n ρ F Γ (Post P fn X R .ret) :=
  fun a w ha hw => ⟨ha.dz, .tuple (u :: v :: vs).toArray, by
    unfold results
    rw [hr, List.mapM_toArray, Sem.run_bind, Sem.run_map, RVL.run ha hw.hp _ (fun r => by cases r <;> rfl) hv]
    simp, _, F, Δ, rfl, h, (hw.perm hp).right⟩
theorem r_mix0 {fn : Func} {R : Value → FH → Blks → Prop} {rs : List ResultVar} {u v : Value} {vs : List Value} (hr : fn.results = rs.toArray) (hv : RVL P n ρ F Γ rs (u :: v :: vs)) (h : R (.tuple (u :: v :: vs).toArray) F []) :
    PW X n ρ F Γ (Post P fn X R .ret) := r_mix Γ [] (by rw [List.append_nil]) hr hv h
theorem r_mix1 {fn : Func} {R : Value → FH → Blks → Prop} {rs : List ResultVar} {u v : Value} {vs : List Value} (Δ : Blks) {E : Blks} [hs : Sp Γ Δ E] (hr : fn.results = rs.toArray) (hv : RVL P n ρ F Γ rs (u :: v :: vs)) (h : R (.tuple (u :: v :: vs).toArray) F Δ) :
    PW X n ρ F Γ (Post P fn X R .ret) := r_mix E Δ (hs.perm.trans List.perm_append_comm) hr hv h

/-- The place of an element of an array. -/
theorem y_iaA {t e ty : TypeId} {x y : Operand} {m b off : Nat} {i : Int} {k : IntKind} {sz by' sz' by'' : Nat} {z z' : Value} {de : TypeDesc}
    (ht : Ty P t (.array m e) sz' by'' z') (he : Ty P e de sz by' z) (hx : ev ρ x = some (.pointer (some ⟨b, off, none⟩))) (hy : ev ρ y = some (.int k i)) (hi : 0 ≤ i ∧ i < m) :
    Yl P n ρ F Γ (.indexAddr t x y) ty (.pointer (some ⟨b, off + i.toNat * sz, none⟩)) := fun d pos af g a w ha hw => by
    have hsz := he.size w
    simp [execOp, ha.eval hx, ha.eval hy, Instr.indexAt, Instr.sureAddr, asIntOf, underlying, ht.u, hi.1, hi.2, hsz, add_off]

/-- Divisions. -/
theorem y_rem {t u ty : TypeId} {x y : Operand} {a b : Int} (hx : ev ρ x = some (int a)) (hy : ev ρ y = some (int b)) (hb : b ≠ 0) (hr : -9223372036854775808 ≤ a.tmod b ∧ a.tmod b ≤ 9223372036854775807) :
    Yl P n ρ F Γ (.binOp .rem t x y u) ty (int (a.tmod b)) := fun d pos af g c w ha hw => by
  simp [execOp, ha.eval hx, ha.eval hy, eqGuard, binOp, Op.intArith, Op.intBits, Op.intCmp, Op.intDiv, hb, wrap_i64 hr]
theorem y_quo {t u ty : TypeId} {x y : Operand} {a b : Int} (hx : ev ρ x = some (int a)) (hy : ev ρ y = some (int b)) (hb : b ≠ 0) (hr : -9223372036854775808 ≤ a.tdiv b ∧ a.tdiv b ≤ 9223372036854775807) :
    Yl P n ρ F Γ (.binOp .quo t x y u) ty (int (a.tdiv b)) := fun d pos af g c w ha hw => by
  simp [execOp, ha.eval hx, ha.eval hy, eqGuard, binOp, Op.intArith, Op.intBits, Op.intCmp, Op.intDiv, hb, wrap_i64 hr]

/-- Functions and maps held against nil. -/
theorem y_feq {t u ty : TypeId} {x : Operand} {f : Value} {b : Bool} (hx : ev ρ x = some f) (hg : P.eqGuardType P.depth t = false) (hb : ∀ w, (Op.equal t f .nilFunc).run P w = .ok b w) : Yl P n ρ F Γ (.binOp .eql t x (.const .nilFunc) u) ty (.bool b) := fun d pos af g c w ha hw => by
  have hy : c.eval (.const .nilFunc) = .nilFunc := rfl
  cases f <;> simp [execOp, ha.eval hx, hy, eqGuard, hg, binOp, hb w]
theorem y_meq {t u ty : TypeId} {x : Operand} {m : Option Nat} {b : Bool} (hx : ev ρ x = some (.map m)) (hg : P.eqGuardType P.depth t = false) (hb : ∀ w, (Op.equal t (.map m) (.map none)).run P w = .ok b w) : Yl P n ρ F Γ (.binOp .eql t x (.const (.map none)) u) ty (.bool b) := fun d pos af g c w ha hw => by
  have hy : c.eval (.const (.map none)) = .map none := rfl
  simp [execOp, ha.eval hx, hy, eqGuard, hg, binOp, hb w]

/-- A call of a bound function. -/
theorem e_callB {d : Nat} {go : Operand} {args : Array Operand} {ats : Array TypeId} {ty : TypeId} {pos : String} {af : Array Edge} {g : Option (Nat × Bool)} {K : Act → World → Prop} {f : FuncId} {fs vs cs : List Value} {Γ1 Γ2 : Blks} {R : Value → FH → Blks → Prop}
    (hg : ev ρ go = some (.func (.func f) fs.toArray cs.toArray)) (ha : evL ρ args.toList = some vs) (hC : Fn P f (fs ++ vs ++ cs) F Γ1 R) (hp : Γ.Perm (Γ1 ++ Γ2)) (hd : Nat.blt d n = true)
    (k : ∀ v F' Γ', R v F' Γ' → Le F F' → PW X n ((d, v) :: ρ) F' (Γ' ++ Γ2) K) :
    PW X n ρ F Γ (fun a w => (Oper.mk (some d) (.call ⟨.value go, args, ats⟩) ty pos af g).wp P a w K Q) := by
  intro a w hag hw
  unfold Oper.wp
  have e1 : args.map a.eval = vs.toArray := by apply Array.ext'; simpa using hag.evalL ha
  have hr : (execOp a.eval ⟨some d, .call ⟨.value go, args, ats⟩, ty, pos, af, g⟩).run P w = .ok (.enter f (fs ++ vs ++ cs).toArray) w := by
    simp [execOp, resolve, hag.eval hg, Deferred.ofValue, e1, invoke, callFunc_run hC.1]
  rw [hr]
  have hw1 := hw.perm hp
  refine (hC.2 w hw1.start).mono ?_
  rintro e w' ⟨v, F', Γ', rfl, hR, hh⟩
  exact k v F' Γ' hR hh.up _ _ (hag.put hd) (hw1.back hh)
/-- A call, where what it is handed is found by itself. -/
theorem e_callP {d : Nat} {go : Operand} {args : Array Operand} {ats : Array TypeId} {ty : TypeId} {pos : String} {af : Array Edge} {g : Option (Nat × Bool)} {K : Act → World → Prop} {f : FuncId} {vs cs : List Value} (Γ1 : Blks) {Γ2 : Blks} {R : Value → FH → Blks → Prop}
    (hg : ev ρ go = some (.func (.func f) #[] cs.toArray)) (ha : evL ρ args.toList = some vs) (hC : Fn P f (vs ++ cs) F Γ1 R) [hp : Sp Γ Γ1 Γ2] (hd : Nat.blt d n = true)
    (k : ∀ v F' Γ', R v F' Γ' → Le F F' → PW X n ((d, v) :: ρ) F' (Γ' ++ Γ2) K) :
    PW X n ρ F Γ (fun a w => (Oper.mk (some d) (.call ⟨.value go, args, ats⟩) ty pos af g).wp P a w K Q) := e_call hg ha hC hp.perm hd k

/-- copy of frozen elements into a whole block. -/
theorem e_copy {d : Nat} {x y : Operand} {t tx e ty : TypeId} {pos : String} {af : Array Edge} {g : Option (Nat × Bool)} {K : Act → World → Prop} {u : Value} {b len cap k : Nat} {sz by' : Nat} {c c' news : List Value} {z z1 : Value} {de : TypeDesc} {s1 b1 : Nat} {uu : TypeId} {C : Obj → Blks}
    (ht : Ty P t (.slice e) s1 b1 z1) (he : Ty P e de sz by' z) (hx : ev ρ x = some (.slice (some ⟨b, 0, none⟩) len cap)) (hy : ev ρ y = some u) [hA : At Γ b (.cells c.toArray uu (0, 0)) C] (hS : Src P F Γ sz u k news) (hk : k ≤ len)
    (hfl : flatL news = true) (hu : upd c 0 news = some c') (hd : Nat.blt d n = true)
    (kk : PW X n ((d, int k) :: ρ) F (C (.cells c'.toArray uu (0, 0))) K) :
    PW X n ρ F Γ (fun a w => (Oper.mk (some d) (.call ⟨.builtin .copy, #[x, y], #[t, tx]⟩) ty pos af g).wp P a w K Q) := by
  refine e_new (S := fun v' F' Γ' => v' = int k ∧ F' = F ∧ Γ' = C (.cells c'.toArray uu (0, 0))) hd (fun a w ha hw => ?_) (by rintro v' _ _ ⟨rfl, rfl, rfl⟩; exact kk)
  obtain ⟨hnews, hS⟩ := hS
  obtain ⟨hS1, hS2⟩ := hS w hw.hp
  have hst := storeCells_run (P := P) (b := b) (u := uu) (fz := (0, 0)) 0 news 0 c c' w hfl (hA.get hw.hp) hu (fun j _ _ h => by simp at h)
  have hmin : Nat.min k len = k := Nat.min_eq_left hk
  refine ⟨_, F, _, _, ?_, ⟨rfl, rfl, rfl⟩, At.set (h := hA) hw⟩
  simp [execOp, resolve, ha.eval hx, ha.eval hy, invoke, builtin, Builtin.copy_, run_underlying ht.u, he.size, hS1, hS2, hmin, hst]
  rfl
end

/-! Maps by keys of a kind. -/
section
variable {κ : Type} [DecidableEq κ]
def EsK (kv : κ → Value) (m : List (κ × Value × Nat)) : Array MapEntry := (m.map fun x => (⟨kv x.1, x.2.1, x.2.2⟩ : MapEntry)).toArray
def fnd : List (κ × Value × Nat) → κ → Option Value
  | [], _ => none
  | (k, v, _) :: r, x => if x = k then some v else fnd r x
def atM (m : List (κ × Value × Nat)) (x : κ) : Option Nat := m.findIdx? (fun y => decide (x = y.1))
def putM (m : List (κ × Value × Nat)) (c : Nat) (k : κ) (v : Value) : List (κ × Value × Nat) := match atM m k with
  | some j => m.modify j fun y => (k, v, y.2.2)
  | none => m ++ [(k, v, c)]
def putC (m : List (κ × Value × Nat)) (c : Nat) (k : κ) : Nat := match atM m k with
  | some _ => c
  | none => c + 1
theorem fnd_eq (x : κ) : ∀ (m : List (κ × Value × Nat)), fnd m x = (match atM m x with
      | some j => (m[j]?).map fun y => y.2.1
      | none => none)
  | [] => rfl
  | (k, v, b) :: m => by
    have ih := fnd_eq x m
    unfold atM at *
    simp only [fnd, List.findIdx?_cons]
    by_cases hxk : x = k
    · simp [hxk]
    · simp only [hxk, if_false, ih, decide_false, Bool.false_eq_true]
      cases m.findIdx? (fun y => decide (x = y.1)) <;> simp
theorem fnd_app (k : κ) (v : Value) (c : Nat) (x : κ) : ∀ (m : List (κ × Value × Nat)), fnd m k = none → fnd (m ++ [(k, v, c)]) x = if x = k then some v else fnd m x
  | [], _ => by simp [fnd]
  | (j, u, b) :: m, h => by
    simp only [fnd] at h
    split at h
    · cases h
    · rename_i hne
      simp only [List.cons_append, fnd, fnd_app k v c x m h]
      by_cases hxj : x = j
      · simp [hxj, Ne.symm hne]
      · simp [hxj]
theorem fnd_mod (k : κ) (v : Value) (x : κ) : ∀ (m : List (κ × Value × Nat)) (j : Nat), m.findIdx? (fun y => decide (k = y.1)) = some j →
    fnd (m.modify j fun y => (k, v, y.2.2)) x = if x = k then some v else fnd m x
  | [], j, h => by simp at h
  | (i, u, b) :: m, j, h => by
    rw [List.findIdx?_cons] at h
    by_cases hki : k = i
    · subst hki
      simp at h
      subst h
      simp only [List.modify_cons, fnd, if_true]
      by_cases hx : x = k <;> simp [hx]
    · simp only [hki, decide_false, Bool.false_eq_true, if_false] at h
      cases hj : m.findIdx? (fun y => decide (k = y.1)) with
      | none => simp [hj] at h
      | some q =>
        simp [hj] at h
        subst h
        simp only [List.modify_succ_cons, fnd, fnd_mod k v x m q hj]
        by_cases hxi : x = i
        · have : x ≠ k := by rw [hxi]; exact Ne.symm hki
          simp [hxi, Ne.symm hki]
        · simp [hxi]
theorem fnd_none {m : List (κ × Value × Nat)} {k : κ} (h : atM m k = none) : fnd m k = none := by rw [fnd_eq, h]
theorem atM_lt {m : List (κ × Value × Nat)} {k : κ} {j : Nat} (h : atM m k = some j) : j < m.length := (List.findIdx?_eq_some_iff_getElem.1 h).1
theorem fnd_some {m : List (κ × Value × Nat)} {k : κ} {j : Nat} (h : atM m k = some j) : (fnd m k).isSome = true := by
  rw [fnd_eq, h]; simp [atM_lt h]
/-- What is found behind a store. -/
theorem fnd_put (m : List (κ × Value × Nat)) (c : Nat) (k : κ) (v : Value) (x : κ) : fnd (putM m c k v) x = if x = k then some v else fnd m x := by
  unfold putM
  cases h : atM m k with
  | none => exact fnd_app k v c x m (fnd_none h)
  | some j => exact fnd_mod k v x m j h
theorem put_len (m : List (κ × Value × Nat)) (c : Nat) (k : κ) (v : Value) : (putM m c k v).length = if (fnd m k).isSome = true then m.length else m.length + 1 := by
  unfold putM
  cases h : atM m k with
  | none => simp [fnd_none h]
  | some j => simp [fnd_some h]
/-- Births are behind the clock. -/
def Born (m : List (κ × Value × Nat)) (c : Nat) : Prop := ∀ y ∈ m, y.2.2 < c
theorem Born.put {m : List (κ × Value × Nat)} {c : Nat} (h : Born m c) (k : κ) (v : Value) : Born (putM m c k v) (putC m c k) := by
  unfold putM putC
  cases ha : atM m k with
  | none =>
    intro y hy
    rcases List.mem_append.1 hy with hy | hy
    · exact Nat.lt_succ_of_lt (h y hy)
    · rw [List.mem_singleton.1 hy]; exact Nat.lt_succ_self c
  | some j =>
    intro y hy
    obtain ⟨i, hi, rfl⟩ := List.getElem_of_mem hy
    simp only [List.length_modify] at hi
    simp only [List.getElem_modify]
    have := h m[i] (List.getElem_mem hi)
    split <;> simpa using this

/-- What a kind of keys must bear. -/
structure KeyK (P : Program) (kt : TypeId) (kv : κ → Value) : Prop where
  find : ∀ (x : κ) (m : List (κ × Value × Nat)) (w : World), (Instr.findKey kt (kv x) (EsK kv m).toList).run P w = .ok (match atM m x with
      | some j => (m[j]?).map fun y => (j, y.2.1)
      | none => none) w
  chk : ∀ (e : Bool) (x : κ) (w : World), (Instr.checkKey e 10000 kt (kv x)).run P w = .ok () w
  stay : ∀ (x : κ) (w : World), (Instr.keyThatStays (kv x) (kv x)).run P w = .ok (kv x) w
end

theorem findNow_int (q k0 : IntKind) (x : Int) : ∀ (m : List (Int × Value × Nat)) (i : Nat),
    Instr.findNow (.int q) (.int k0 x) (m.map fun x => (⟨.int k0 x.1, x.2.1, x.2.2⟩ : MapEntry)) i = some (match m.findIdx? (fun y => decide (x = y.1)) with
      | some j => (m[j]?).map fun y => (i + j, y.2.1)
      | none => none)
  | [], i => rfl
  | (k, v, b) :: m, i => by
    have h : (x == k) = decide (x = k) := rfl
    simp only [List.map_cons, Instr.findNow, Instr.sameNow, if_true, h]
    by_cases hxk : x = k
    · simp [hxk, List.findIdx?_cons]
    · simp only [hxk, decide_false, findNow_int q k0 x m (i + 1), List.findIdx?_cons]
      simp only [decide_eq_true_eq, hxk, if_false, Bool.false_eq_true]
      cases m.findIdx? (fun y => decide (x = y.1)) with
      | none => simp
      | some j => simp [Nat.add_comm, Nat.add_left_comm, Nat.add_assoc]
theorem checkKey_int (q : Nat) {P : Program} {kt : TypeId} {k : IntKind} (h : P.underlying kt = some (.int k)) (e : Bool) (x : Value) (w : World) : (Instr.checkKey e (q + 1) kt x).run P w = .ok () w := by
  simp [Instr.checkKey, underlying, h]
theorem sameBits_int (k : IntKind) (x : Int) : Instr.sameBits 10000 (.int k x) (.int k x) = true := by
  show Instr.sameBits (9999 + 1) (.int k x) (.int k x) = true
  simp [Instr.sameBits]
theorem kkInt {P : Program} {kt : TypeId} {k : IntKind} (k0 : IntKind) (h : P.underlying kt = some (.int k)) : KeyK P kt (fun x : Int => .int k0 x) where
  find := fun x m w => by
    have h1 := findNow_int k k0 x m 0
    simp only [Nat.zero_add] at h1
    have h2 : (EsK (fun x : Int => Value.int k0 x) m).toList = m.map fun x => (⟨.int k0 x.1, x.2.1, x.2.2⟩ : MapEntry) := rfl
    unfold Instr.findKey atM
    simp only [underlying, Sem.run_bind, run_program, Result.andThen_ok, h, Sem.run_pure, h2, h1]
  chk := fun e x w => checkKey_int 9999 h e _ w
  stay := fun x w => by simp [Instr.keyThatStays, sameBits_int]
theorem kkStr {P : Program} {kt : TypeId} (h : P.underlying kt = some .string) : KeyK P kt str where
  find := fun x m w => findKey_str h x m w
  chk := fun e x w => checkKey_str h e x w
  stay := fun x w => by simp [Instr.keyThatStays, sameBits_str]

section
variable {P : Program} {X : Cx} {n : Nat} {ρ : Regs} {F : FH} {Γ : Blks} {Q : Exit → Act → World → Prop} {κ : Type} {kv : κ → Value}

/-- The entries of a map: in the walk's own blocks, or frozen. -/
theorem look_run [DecidableEq κ] {t kt et : TypeId} {b clock : Nat} {k : κ} {m : List (κ × Value × Nat)} {z : Value} {sz by' : Nat} {de : TypeDesc} {w : World} (ok : Bool)
    (ht : P.underlying t = some (.map kt et)) (hk : KeyK P kt kv) (he : Ty P et de sz by' z) (hb : w.heap[b]? = some (.map (EsK kv m) clock)) :
    (Instr.lookup t (.map (some b)) (kv k) ok).run P w = .ok (if ok = true then .tuple #[(fnd m k).getD z, .bool (fnd m k).isSome] else (fnd m k).getD z) w := by
  have hg : (getObj b).run P w = .ok (.map (EsK kv m) clock) w := by simp [getObj, Sem.run, hb]
  have hz := he.zero w
  have h1 := hk.find k m w
  have h2 := hk.chk (EsK kv m).isEmpty k w
  simp only [Instr.lookup, underlying, Sem.run_bind, run_program, Result.andThen_ok, ht, Sem.run_pure, hg, h1, h2]
  rw [fnd_eq]
  cases hf : atM m k with
  | none => simp [hz]
  | some j =>
    have hj := atM_lt hf
    simp [hj]
theorem y_lookK [DecidableEq κ] {t kt et ty : TypeId} {x y : Operand} {b clock : Nat} {k : κ} {m : List (κ × Value × Nat)} {C : Obj → Blks} {z : Value} {sz by' : Nat} {de : TypeDesc}
    (ht : P.underlying t = some (.map kt et)) (hk : KeyK P kt kv) (he : Ty P et de sz by' z) (hx : ev ρ x = some (.map (some b))) (hy : ev ρ y = some (kv k)) [hA : At Γ b (.map (EsK kv m) clock) C] :
    Yl P n ρ F Γ (.lookup t x y false) ty ((fnd m k).getD z) := fun d pos af g a w ha hw => by
  have h := look_run (k := k) false ht hk he (hA.get hw)
  simp [execOp, ha.eval hx, ha.eval hy, h]
theorem y_lookKo [DecidableEq κ] {t kt et ty : TypeId} {x y : Operand} {b clock : Nat} {k : κ} {m : List (κ × Value × Nat)} {C : Obj → Blks} {z : Value} {sz by' : Nat} {de : TypeDesc}
    (ht : P.underlying t = some (.map kt et)) (hk : KeyK P kt kv) (he : Ty P et de sz by' z) (hx : ev ρ x = some (.map (some b))) (hy : ev ρ y = some (kv k)) [hA : At Γ b (.map (EsK kv m) clock) C] :
    Yl P n ρ F Γ (.lookup t x y true) ty (.tuple #[(fnd m k).getD z, .bool (fnd m k).isSome]) := fun d pos af g a w ha hw => by
  have h := look_run (k := k) true ht hk he (hA.get hw)
  simp [execOp, ha.eval hx, ha.eval hy, h]
theorem y_lenM {t kt et ty : TypeId} {x : Operand} {b clock : Nat} {m : List (κ × Value × Nat)} {C : Obj → Blks} (ht : P.underlying t = some (.map kt et)) (hx : ev ρ x = some (.map (some b))) [hA : At Γ b (.map (EsK kv m) clock) C] :
    Yl P n ρ F Γ (.call ⟨.builtin .len, #[x], #[t]⟩) ty (int m.length) := fun d pos af g a w ha hw => by
  have hb := hA.get hw
  have hg : (getObj b).run P w = .ok (.map (EsK kv m) clock) w := by simp [getObj, Sem.run, hb]
  simp [execOp, resolve, ha.eval hx, invoke, builtin, Builtin.len_, underlying, ht, hg, goInt, EsK]

/-- A store. -/
theorem e_putK [DecidableEq κ] {t kt et ty : TypeId} {x y z : Operand} {pos : String} {af : Array Edge} {g : Option (Nat × Bool)} {K : Act → World → Prop} {b clock : Nat} {k : κ} {v : Value} {m : List (κ × Value × Nat)} {C : Obj → Blks}
    (ht : P.underlying t = some (.map kt et)) (hk : KeyK P kt kv) (hx : ev ρ x = some (.map (some b))) (hy : ev ρ y = some (kv k)) (hz : ev ρ z = some v) [hA : At Γ b (.map (EsK kv m) clock) C]
    (kk : PW X n ρ F (C (.map (EsK kv (putM m clock k v)) (putC m clock k))) K) : PW X n ρ F Γ (fun a w => (Oper.mk none (.mapUpdate t x y z) ty pos af g).wp P a w K Q) := by
  refine e_unit (F' := F) (Γ' := C (.map (EsK kv (putM m clock k v)) (putC m clock k))) (fun a w ha hw => ⟨_, ?_, At.set (h := hA) hw⟩) kk
  have hb := hA.get hw.hp
  have hg : (getObj b).run P w = .ok (.map (EsK kv m) clock) w := by simp [getObj, Sem.run, hb]
  have h1 := hk.find k m w
  have h2 := hk.chk false k w
  cases hf : atM m k with
  | none =>
    rw [hf] at h1
    have h4 : (EsK kv m).push ⟨kv k, v, clock⟩ = EsK kv (m ++ [(k, v, clock)]) := by simp [EsK]
    have hs : (setObj b (.map (EsK kv (m ++ [(k, v, clock)])) (clock + 1))).run P w = .ok () { w with heap := w.heap.setIfInBounds b (.map (EsK kv (m ++ [(k, v, clock)])) (clock + 1)) } := by simp [setObj, Sem.run, hb]
    simp only [execOp, ha.eval hx, ha.eval hy, ha.eval hz, Instr.mapUpdate, underlying, Sem.run_bind, run_program, Result.andThen_ok, ht, Sem.run_pure, hg, h1, h2, h4, hs, putM, putC, hf]
  | some j =>
    obtain ⟨hj, hkj, -⟩ := List.findIdx?_eq_some_iff_getElem.1 hf
    have hkj' : k = m[j].1 := by simpa using hkj
    rw [hf] at h1
    simp only [List.getElem?_eq_getElem hj, Option.map_some] at h1
    have h3 : (EsK kv m)[j]? = some ⟨kv k, m[j].2.1, m[j].2.2⟩ := by simp [EsK, hj, ← hkj']
    have h4 : (EsK kv m).modify j (fun e => { e with key := kv k, val := v }) = EsK kv (m.modify j fun y => (k, v, y.2.2)) := by
      apply Array.toList_inj.1
      simp only [EsK, Array.toList_modify]
      apply List.ext_getElem?
      intro i
      simp only [List.getElem?_modify, List.getElem?_map]
      by_cases hij : j = i
      · subst hij; simp [hj]
      · simp [hij]
    have h5 : (Instr.keyThatStays (((((EsK kv m)[j]?).map (·.key)).getD (kv k))) (kv k)).run P w = .ok (kv k) w := by rw [h3]; exact hk.stay k w
    have hs : (setObj b (.map (EsK kv (m.modify j fun y => (k, v, y.2.2))) clock)).run P w = .ok () { w with heap := w.heap.setIfInBounds b (.map (EsK kv (m.modify j fun y => (k, v, y.2.2))) clock) } := by simp [setObj, Sem.run, hb]
    simp only [execOp, ha.eval hx, ha.eval hy, ha.eval hz, Instr.mapUpdate, underlying, Sem.run_bind, run_program, Result.andThen_ok, ht, Sem.run_pure, hg, h1, h2, h5, h4, hs, putM, putC, hf]

/-- An entry that is to be written. -/
theorem e_ent [DecidableEq κ] {d : Nat} {t kt et ty : TypeId} {x y : Operand} {pos : String} {af : Array Edge} {g : Option (Nat × Bool)} {K : Act → World → Prop} {b clock : Nat} {k : κ} {m : List (κ × Value × Nat)} {C : Obj → Blks} {z : Value} {sz by' : Nat} {de : TypeDesc}
    (ht : P.underlying t = some (.map kt et)) (hk : KeyK P kt kv) (he : Ty P et de sz by' z) (hx : ev ρ x = some (.map (some b))) (hy : ev ρ y = some (kv k)) [hA : At Γ b (.map (EsK kv m) clock) C] (hn : fnd m k = none) (hd : Nat.blt d n = true)
    (kk : PW X n ((d, .tuple #[z, int clock]) :: ρ) F (C (.map (EsK kv (m ++ [(k, z, clock)])) (clock + 1))) K) : PW X n ρ F Γ (fun a w => (Oper.mk (some d) (.mapEntry t x y) ty pos af g).wp P a w K Q) := by
  refine e_new (S := fun v' F' Γ' => v' = .tuple #[z, int clock] ∧ F' = F ∧ Γ' = C (.map (EsK kv (m ++ [(k, z, clock)])) (clock + 1))) hd (fun a w ha hw => ⟨_, F, _, _, ?_, ⟨rfl, rfl, rfl⟩, At.set (h := hA) hw⟩) (by rintro _ _ _ ⟨rfl, rfl, rfl⟩; exact kk)
  have hb := hA.get hw.hp
  have hg : (getObj b).run P w = .ok (.map (EsK kv m) clock) w := by simp [getObj, Sem.run, hb]
  have h1 := hk.find k m w
  have h2 := hk.chk false k w
  have hz := he.zero w
  have hf : atM m k = none := by
    cases hf : atM m k with
    | none => rfl
    | some j => have := fnd_some hf; rw [hn] at this; cases this
  rw [hf] at h1
  have h4 : (EsK kv m).push ⟨kv k, z, clock⟩ = EsK kv (m ++ [(k, z, clock)]) := by simp [EsK]
  have hs : (setObj b (.map (EsK kv (m ++ [(k, z, clock)])) (clock + 1))).run P w = .ok () { w with heap := w.heap.setIfInBounds b (.map (EsK kv (m ++ [(k, z, clock)])) (clock + 1)) } := by simp [setObj, Sem.run, hb]
  simp only [execOp, ha.eval hx, ha.eval hy, Instr.mapEntry, underlying, Sem.run_bind, run_program, Result.andThen_ok, ht, Sem.run_pure, hg, h1, h2, hz, h4, hs]
  rfl
theorem e_entSt {t ty : TypeId} {x y z : Operand} {pos : String} {af : Array Edge} {g : Option (Nat × Bool)} {K : Act → World → Prop} {b clock c' : Nat} {k : κ} {v u : Value} {m : List (κ × Value × Nat)} {C : Obj → Blks}
    (hx : ev ρ x = some (.map (some b))) (hy : ev ρ y = some (int clock)) (hz : ev ρ z = some v) [hA : At Γ b (.map (EsK kv (m ++ [(k, u, clock)])) c') C] (hB : Born m clock)
    (kk : PW X n ρ F (C (.map (EsK kv (m ++ [(k, v, clock)])) c')) K) : PW X n ρ F Γ (fun a w => (Oper.mk none (.entryStore t x y z) ty pos af g).wp P a w K Q) := by
  refine e_unit (F' := F) (Γ' := C (.map (EsK kv (m ++ [(k, v, clock)])) c')) (fun a w ha hw => ⟨_, ?_, At.set (h := hA) hw⟩) kk
  have hb := hA.get hw.hp
  have hg : (getObj b).run P w = .ok (.map (EsK kv (m ++ [(k, u, clock)])) c') w := by simp [getObj, Sem.run, hb]
  have hf : (EsK kv (m ++ [(k, u, clock)])).findIdx? (fun e => (e.born : Int) == (clock : Int)) = some m.length := by
    simp only [EsK, List.findIdx?_toArray]
    rw [List.findIdx?_eq_some_iff_getElem]
    refine ⟨by simp, by simp, fun j hj => ?_⟩
    have hjm : j < m.length := by simpa using hj
    have := hB m[j] (List.getElem_mem hjm)
    simp [List.getElem_append, hjm]
    omega
  have h4 : (EsK kv (m ++ [(k, u, clock)])).modify m.length (fun e => { e with val := v }) = EsK kv (m ++ [(k, v, clock)]) := by
    apply Array.toList_inj.1
    simp only [EsK, Array.toList_modify, List.map_append, List.map_cons, List.map_nil]
    rw [List.modify_eq_take_cons_drop (by simp)]
    simp
  have hs : (setObj b (.map (EsK kv (m ++ [(k, v, clock)])) c')).run P w = .ok () { w with heap := w.heap.setIfInBounds b (.map (EsK kv (m ++ [(k, v, clock)])) c') } := by simp [setObj, Sem.run, hb]
  have hint : asInt (int clock) = (pure (clock : Int) : Sem Int) := rfl
  simp only [execOp, ha.eval hx, ha.eval hy, ha.eval hz, Instr.entryStore, Sem.run_bind, Result.andThen_ok, Sem.run_pure, hg, hint, hf, h4, hs]
end
/-- A map without entries. -/
theorem EsK_nil {κ : Type} (kv : κ → Value) : (EsK kv ([] : List (κ × Value × Nat))) = Es [] := rfl
end Go.SL
