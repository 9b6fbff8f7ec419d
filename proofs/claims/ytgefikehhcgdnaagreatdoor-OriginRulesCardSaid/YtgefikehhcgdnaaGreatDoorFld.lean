/- Slices handed on: frozen, read element by element; maps of texts; comparing structs. No condition. -/
import Derived.Test.YtgefikehhcgdnaaGreatDoorShelf
namespace Go.SL

section
variable {P : Program} {X : Cx} {n : Nat} {ρ : Regs} {F : FH} {Γ : Blks} {Q : Exit → Act → World → Prop}

theorem PW.sub {Φ : Act → World → Prop} (E Δ : Blks) (hp : Γ.Perm (E ++ Δ)) (h : PW X n ρ F Δ Φ) : PW X n ρ F Γ Φ :=
  fun a w ha hw => h a w ha (hw.perm hp).right

theorem PW.clear {Φ : Act → World → Prop} (h : PW X n ρ F [] Φ) : PW X n ρ F Γ Φ := PW.sub Γ [] (by rw [List.append_nil]) h
theorem ld_fm {α : Type} {enc : α → List Value} {sz : Nat} (he : ∀ x, (enc x).length = sz) (l : List α) {i : Nat} (h : i < l.length) :
    ldv true sz (l.flatMap enc) ((i : Int).toNat * sz) = some (.agg (enc l[i]).toArray) := by
  simp [ldv, flatMap_seg he l i h]

theorem ld_fm1 {α : Type} {f : α → Value} (l : List α) {i : Nat} (h : i < l.length) :
    ldv false 1 (l.flatMap fun x => [f x]) ((i : Int).toNat * 1) = some (f l[i]) := by
  have : (l.flatMap fun x => [f x]) = l.map f := by
    clear h
    induction l <;> simp_all
  simp [ldv, nth_eq, this, h]

/-- A slice that the walk owns is handed over to the frozen heap. -/
theorem PW.freezeOwn {Φ : Act → World → Prop} {α : Type} {enc : α → List Value} {T : TypeId} {sz : Nat} {l : List α} {v : Value} {Γo Γr : Blks} (h : Own T sz (l.flatMap enc) l.length v Γo) (hp : Γ.Perm (Γo ++ Γr))
    (k : ∀ F', Le F F' → SlAt F' enc v l → PW X n ρ F' Γr Φ) : PW X n ρ F Γ Φ := by
  refine PW.perm _ hp ?_
  obtain ⟨hl, h⟩ := h
  rcases h with ⟨rfl, h0, rfl⟩ | ⟨b, cap, junk, fz, rfl, rfl, hcap, hle, hfz⟩
  · exact k F (Le.refl _) (.inl ⟨List.length_eq_zero_iff.1 h0, _, _, rfl⟩)
  · refine PW.freeze fun hF => k _ hF (.inr ⟨b, 0, cap, rfl, hle, _, T, fz, fset_self _ _ _, ?_⟩)
    refine seg_of (fun j v hj => ?_) ?_
    · have hlt := (List.getElem?_eq_some_iff.1 hj).1
      rw [Nat.zero_add, List.getElem?_append_left hlt]; exact hj
    · left; simp

theorem SlAt.at {α : Type} {enc : α → List Value} {v : Value} {l : List α} (h : SlAt F enc v l) : ∃ a cap, v = .slice a l.length cap ∧ (l ≠ [] → ∃ b off, a = some ⟨b, off, none⟩ ∧ l.length ≤ cap ∧ Cs F b off (l.flatMap enc)) := by
  obtain ⟨a, cap, h1, h2⟩ := h.form
  exact ⟨a, cap, h1, fun hne => h2.resolve_left hne⟩

/-- A result in a cell; what else is there is dropped. -/
theorem r_cellD {fn : Func} {R : Value → FH → Blks → Prop} {t : Tmp} {T : TypeId} {de : TypeDesc} {sz by' : Nat} {z v : Value} {b off : Nat} {c : List Value} {u : TypeId} {fz : Nat × Nat} {C : Obj → Blks} {X : Cx} (E Δ : Blks) (hp : Γ.Perm (E ++ Δ))
    (hr : fn.results = #[.cell t T]) (ht : Ty P T de sz by' z) (hx : lk t ρ = some (.pointer (some ⟨b, off, none⟩))) [hA : At Γ b (.cells c.toArray u fz) C] (hv : ldv (isAggD de) sz c off = some v)
    (h : R v F Δ) : PW X n ρ F Γ (Post P fn X R .ret) :=
  fun a w ha hw => ⟨ha.dz, v, by
    have := loadVar_run ht (hA.get hw.hp) hv
    have e := lkM_spec ha hx
    simp only [results, hr, List.mapM_toArray, Sem.run_bind, Sem.run_map, List.mapM_cons, List.mapM_nil, e, asAddr, Sem.run_pure, Result.andThen_ok, this]
    simp, v, F, Δ, rfl, h, (hw.perm hp).right⟩
/-- Blocks found in a list. -/
class Sp (Γ Δ : Blks) (R : outParam Blks) : Prop where
  perm : Γ.Perm (Δ ++ R)
instance Sp.here (Δ Γ : Blks) : Sp (Δ ++ Γ) Δ Γ := ⟨List.Perm.refl _⟩
instance Sp.all (Δ : Blks) : Sp Δ Δ [] := ⟨by rw [List.append_nil]⟩
instance Sp.cons (p : Nat × Obj) (Γ Δ R : Blks) [h : Sp Γ Δ R] : Sp (p :: Γ) Δ (p :: R) := ⟨(h.perm.cons p).trans List.perm_middle.symm⟩
instance Sp.app (E Γ Δ R : Blks) [h : Sp Γ Δ R] : Sp (E ++ Γ) Δ (E ++ R) := ⟨(h.perm.append_left E).trans (by rw [← List.append_assoc, ← List.append_assoc]; exact List.perm_append_comm.append_right R)⟩
instance Sp.left (E Γ Δ R : Blks) [h : Sp Γ Δ R] : Sp (Γ ++ E) Δ (R ++ E) := ⟨by rw [← List.append_assoc]; exact h.perm.append_right E⟩
theorem PW.pull {Φ : Act → World → Prop} (Δ : Blks) {R : Blks} [h : Sp Γ Δ R] (k : PW X n ρ F (Δ ++ R) Φ) : PW X n ρ F Γ Φ := PW.perm _ h.perm k
/-- What is found is kept, the others are dropped. -/
theorem PW.only {Φ : Act → World → Prop} (Δ : Blks) {R : Blks} [h : Sp Γ Δ R] (k : PW X n ρ F Δ Φ) : PW X n ρ F Γ Φ := PW.sub R Δ (h.perm.trans List.perm_append_comm) k
theorem PW.only2 {Φ : Act → World → Prop} (Δ1 Δ2 : Blks) {R R' : Blks} [h : Sp Γ Δ1 R] [h' : Sp R Δ2 R'] (k : PW X n ρ F (Δ1 ++ Δ2) Φ) : PW X n ρ F Γ Φ :=
  PW.sub R' (Δ1 ++ Δ2) (h.perm.trans (((h'.perm.append_left Δ1).trans (by rw [← List.append_assoc])).trans List.perm_append_comm)) k
theorem r_cell1 {fn : Func} {Q : Value → FH → Blks → Prop} {t : Tmp} {T : TypeId} {de : TypeDesc} {sz by' : Nat} {z v : Value} {b off : Nat} {c : List Value} {u : TypeId} {fz : Nat × Nat} {C : Obj → Blks} {X : Cx} (Δ : Blks) {R : Blks} [h : Sp Γ Δ R]
    (hr : fn.results = #[.cell t T]) (ht : Ty P T de sz by' z) (hx : lk t ρ = some (.pointer (some ⟨b, off, none⟩))) [hA : At Γ b (.cells c.toArray u fz) C] (hv : ldv (isAggD de) sz c off = some v)
    (k : Q v F Δ) : PW X n ρ F Γ (Post P fn X Q .ret) := r_cellD R Δ (h.perm.trans List.perm_append_comm) hr ht hx hv k
theorem r_cell2 {fn : Func} {Q : Value → FH → Blks → Prop} {t : Tmp} {T : TypeId} {de : TypeDesc} {sz by' : Nat} {z v : Value} {b off : Nat} {c : List Value} {u : TypeId} {fz : Nat × Nat} {C : Obj → Blks} {X : Cx} (Δ1 Δ2 : Blks) {R R' : Blks} [h : Sp Γ Δ1 R] [h' : Sp R Δ2 R']
    (hr : fn.results = #[.cell t T]) (ht : Ty P T de sz by' z) (hx : lk t ρ = some (.pointer (some ⟨b, off, none⟩))) [hA : At Γ b (.cells c.toArray u fz) C] (hv : ldv (isAggD de) sz c off = some v)
    (k : Q v F (Δ1 ++ Δ2)) : PW X n ρ F Γ (Post P fn X Q .ret) := r_cellD R' (Δ1 ++ Δ2) (h.perm.trans (((h'.perm.append_left Δ1).trans (by rw [← List.append_assoc])).trans List.perm_append_comm)) hr ht hx hv k
theorem Own.val {T : TypeId} {sz len : Nat} {cs : List Value} {v : Value} {Γo : Blks} (h : Own T sz cs len v Γo) : ∃ p c, v = .slice p len c := by
  rcases h.2 with ⟨h1, h2, -⟩ | ⟨b, c, _, _, h1, -⟩
  · exact ⟨none, 0, by rw [h1, h2]⟩
  · exact ⟨_, c, h1⟩
instance Sp.one (p : Nat × Obj) (Γ : Blks) : Sp (p :: Γ) [p] Γ := ⟨List.Perm.refl _⟩
instance At.app (E Γ : Blks) (b : Nat) (o : Obj) (C : Obj → Blks) [h : At Γ b o C] : At (E ++ Γ) b o (fun o' => E ++ C o') := ⟨by
  obtain ⟨r, h1, h2⟩ := h.p
  exact ⟨E ++ r, (h1.append_left E).trans List.perm_middle, fun o' => ((h2 o').append_left E).trans List.perm_middle⟩⟩
instance At.left (E Γ : Blks) (b : Nat) (o : Obj) (C : Obj → Blks) [h : At Γ b o C] : At (Γ ++ E) b o (fun o' => C o' ++ E) := ⟨by
  obtain ⟨r, h1, h2⟩ := h.p
  exact ⟨r ++ E, h1.append_right E, fun o' => (h2 o').append_right E⟩⟩
/-- A slice of nothing. -/
theorem e_bs0 {d : Nat} {t e ty : TypeId} {pos : String} {af : Array Edge} {g : Option (Nat × Bool)} {K : Act → World → Prop} {de : TypeDesc} {sz by' s1 b1 : Nat} {z1 z2 : Value}
    (ht : Ty P t (.slice e) s1 b1 z1) (he : Ty P e de sz by' z2) (hd : Nat.blt d n = true)
    (kk : ∀ b, PW X n ((d, .slice (some ⟨b, 0, none⟩) 0 0) :: ρ) F ((b, .cells (List.toArray []) e (0, 0)) :: Γ) K) : PW X n ρ F Γ (fun a w => (Oper.mk (some d) (.buildSlice t 0 #[]) ty pos af g).wp P a w K Q) :=
  e_bs (c := []) (l := []) ht he (by omega) (by rw [if_pos (by omega)]) rfl rfl hd kk
/-- append, where what it grows is found by itself. -/
theorem e_appS {d : Nat} {x y : Operand} {t tx e ty : TypeId} {pos : String} {af : Array Edge} {g : Option (Nat × Bool)} {K : Act → World → Prop} {v u : Value} {Γo Γr : Blks} {sz by' len k : Nat} {cs news : List Value} {z z1 : Value} {de dx : TypeDesc} {s1 b1 : Nat}
    (ht : Ty P t (.slice e) s1 b1 z1) (htx : P.underlying tx = some dx) (hdx : (∃ e', dx = .slice e') ∨ dx = .string) (he : Ty P e de sz by' z) (hz : (cellsL z).length = sz) (hx : ev ρ x = some v) (hy : ev ρ y = some u)
    (hO : Own e sz cs len v Γo) [hp : Sp Γ Γo Γr] (hS : Src P F Γ sz u k news) (hfl : flatL news = true) (hb : len + k ≤ 1073741824) (hby : by' ≤ 4096) (hd : Nat.blt d n = true)
    (kk : ∀ v' Γo', Own e sz (cs ++ news) (len + k) v' Γo' → PW X n ((d, v') :: ρ) F (Γo' ++ Γr) K) :
    PW X n ρ F Γ (fun a w => (Oper.mk (some d) (.call ⟨.builtin .append, #[x, y], #[t, tx]⟩) ty pos af g).wp P a w K Q) :=
  e_app ht htx hdx he hz hx hy hO hp.perm hS hfl hb hby hd kk
/-- A slice of zeros, of one cell each. -/
theorem e_mkS {d : Nat} {t e ty : TypeId} {x y : Operand} {pos : String} {af : Array Edge} {g : Option (Nat × Bool)} {K : Act → World → Prop} {k : Nat} {de : TypeDesc} {by' s1 b1 : Nat} {z1 z2 : Value}
    (ht : Ty P t (.slice e) s1 b1 z1) (he : Ty P e de 1 by' z2) (hz : cellsL z2 = [z2]) (hx : ev ρ x = some (int k)) (hy : ev ρ y = some (int k)) (hk : by' * k ≤ 1048576) (hk' : k ≤ 1048576) (hd : Nat.blt d n = true)
    (kk : ∀ b, PW X n ((d, .slice (some ⟨b, 0, none⟩) k k) :: ρ) F ((b, .cells (List.toArray (List.replicate k z2)) e (0, 0)) :: Γ) K) : PW X n ρ F Γ (fun a w => (Oper.mk (some d) (.makeSlice t x y) ty pos af g).wp P a w K Q) :=
  e_new (S := fun v F' Γ' => ∃ b, v = .slice (some ⟨b, 0, none⟩) k k ∧ F' = F ∧ Γ' = (b, .cells (List.toArray (List.replicate k z2)) e (0, 0)) :: Γ) hd
    (fun a w ha hw => ⟨_, _, _, _, by
      have h1 := ht.u
      have h3 := he.zero w
      have h4 := he.size w
      obtain ⟨i, hi, -, hib, -⟩ := he.i
      have hwr : IntKind.wrap .i64 (k : Int) = k := wrap_i64 (by omega)
      have a1 : ((k : Int) < 0) = False := by simp
      have a2 : ((by' : Int) * k > 2 ^ 48) = False := by
        have : ((by' * k : Nat) : Int) ≤ (1048576 : Nat) := Int.ofNat_le.2 hk
        rw [Int.natCast_mul] at this
        exact eq_false (Int.not_lt.2 (Int.le_trans this (by decide)))
      have a3 : ((k : Int) > k) = False := by simp
      have hzc : z2.cells = #[z2] := by rw [cellsL_eq, hz]
      have hrow : ((Array.range (k * 1)).map fun i => (#[z2] : Array Value)[i % (#[z2] : Array Value).size]!) = List.toArray (List.replicate k z2) := by
        apply Array.ext'
        simp only [Nat.mul_one, Array.toList_map, Array.toList_range, List.toList_toArray]
        apply List.ext_getElem
        · simp
        · intro i h1 h2
          simp [Nat.mod_one]
      have hroom : (askRoom (k * by')).run P w = .ok () w := by
        have : ¬ (k * by' > roomBytes) := by rw [Nat.mul_comm]; simp only [roomBytes]; omega
        simp [askRoom, this]
      have hx' : asInt (.int .i64 k) = (pure (k : Int) : Sem Int) := rfl
      simp only [execOp, ha.eval hx, ha.eval hy, Instr.makeSlice, Sem.run_bind, Result.andThen_ok, underlying, run_program, h1, Sem.run_pure, hx', typeInfo, hi, hib, hwr, hroom, Int.toNat_natCast, h4]
      simp only [a1, a2, a3, decide_false, Bool.or_false, Bool.false_eq_true, if_false, Sem.run_bind, hroom, Result.andThen_ok, h4]
      by_cases h0 : k = 0
      · subst h0
        have hr0 : Array.range 0 = #[] := rfl
        simp only [Nat.zero_mul, if_true, Sem.run_bind, Sem.run_pure, Result.andThen_ok, newRow, hr0, Array.map_empty, List.replicate_zero]
        rfl
      · have h0' : ¬ (k * 1 = 0) := by omega
        simp only [h0', if_false, Sem.run_bind, h3, Result.andThen_ok, Sem.run_pure, hzc, hrow, newRow]
        rfl, ⟨_, rfl, rfl, rfl⟩, hw.push _⟩)
    (by rintro _ _ _ ⟨b, rfl, rfl, rfl⟩; exact kk b)
theorem in_nil : In' [] Γ := fun _ h => (by cases h)
theorem in_cons {p : Nat × Obj} {Δ : Blks} (h : p ∈ Γ) (h' : In' Δ Γ) : In' (p :: Δ) Γ := fun q hq => by
  rcases List.mem_cons.1 hq with rfl | hq
  · exact h
  · exact h' q hq
theorem PW.only3 {Φ : Act → World → Prop} (Δ1 Δ2 Δ3 : Blks) {R R' R'' : Blks} [h : Sp Γ Δ1 R] [h' : Sp R Δ2 R'] [h'' : Sp R' Δ3 R''] (k : PW X n ρ F (Δ1 ++ (Δ2 ++ Δ3)) Φ) : PW X n ρ F Γ Φ :=
  PW.sub R'' (Δ1 ++ (Δ2 ++ Δ3)) (h.perm.trans (((h'.perm.trans ((h''.perm.append_left Δ2).trans (by rw [← List.append_assoc]))).append_left Δ1).trans (by rw [← List.append_assoc]; exact List.perm_append_comm))) k
/-- A map's entries with texts as keys. -/
def Es (m : List (List UInt8 × Value × Nat)) : Array MapEntry := (m.map fun x => (⟨str x.1, x.2.1, x.2.2⟩ : MapEntry)).toArray

def findM : List (List UInt8 × Value × Nat) → List UInt8 → Option Value
  | [], _ => none
  | (k, v, _) :: r, x => if x = k then some v else findM r x

theorem findNow_str (x : List UInt8) : ∀ (m : List (List UInt8 × Value × Nat)) (i : Nat),
    Instr.findNow .string (str x) (m.map fun x => (⟨str x.1, x.2.1, x.2.2⟩ : MapEntry)) i = some (match m.findIdx? (fun y => decide (x = y.1)) with
      | some j => (m[j]?).map fun y => (i + j, y.2.1)
      | none => none)
  | [], i => rfl
  | (k, v, b) :: m, i => by
    have h : ((ByteArray.mk x.toArray) == (ByteArray.mk k.toArray)) = decide (x = k) := by
      rw [beq_toListBytes, ByteArray.toList_mk, ByteArray.toList_mk, Bool.eq_iff_iff, beq_iff_eq, decide_eq_true_eq]
    simp only [List.map_cons, Instr.findNow, Instr.sameNow, h]
    by_cases hxk : x = k
    · simp [hxk, List.findIdx?_cons]
    · simp only [hxk, decide_false, findNow_str x m (i + 1), List.findIdx?_cons]
      simp only [decide_eq_true_eq, hxk, if_false, Bool.false_eq_true]
      cases m.findIdx? (fun y => decide (x = y.1)) with
      | none => simp
      | some j => simp [Nat.add_comm, Nat.add_left_comm, Nat.add_assoc]

theorem findM_eq (x : List UInt8) : ∀ (m : List (List UInt8 × Value × Nat)), findM m x = (match m.findIdx? (fun y => decide (x = y.1)) with
      | some j => (m[j]?).map fun y => y.2.1
      | none => none)
  | [] => rfl
  | (k, v, b) :: m => by
    simp only [findM, List.findIdx?_cons]
    by_cases hxk : x = k
    · simp [hxk]
    · simp only [hxk, if_false, findM_eq x m, decide_false, Bool.false_eq_true]
      cases m.findIdx? (fun y => decide (x = y.1)) <;> simp

theorem findKey_str {kt : TypeId} (h : P.underlying kt = some .string) (x : List UInt8) (m : List (List UInt8 × Value × Nat)) (w : World) :
    (Instr.findKey kt (str x) (Es m).toList).run P w = .ok (match m.findIdx? (fun y => decide (x = y.1)) with
      | some j => (m[j]?).map fun y => (j, y.2.1)
      | none => none) w := by
  have h1 := findNow_str x m 0
  simp only [Nat.zero_add] at h1
  have h2 : (Es m).toList = m.map fun x => (⟨str x.1, x.2.1, x.2.2⟩ : MapEntry) := rfl
  unfold Instr.findKey
  simp only [underlying, Sem.run_bind, run_program, Result.andThen_ok, h, Sem.run_pure, h2, h1]

theorem checkKey_suc (q : Nat) {kt : TypeId} (h : P.underlying kt = some .string) (e : Bool) (x : List UInt8) (w : World) : (Instr.checkKey e (q + 1) kt (str x)).run P w = .ok () w := by
  simp [Instr.checkKey, underlying, h]
theorem checkKey_str {kt : TypeId} (h : P.underlying kt = some .string) (e : Bool) (x : List UInt8) (w : World) : (Instr.checkKey e 10000 kt (str x)).run P w = .ok () w :=
  checkKey_suc 9999 h e x w

/-- A look-up by a text. -/
theorem y_look {t kt et ty : TypeId} {x y : Operand} {b clock : Nat} {k : List UInt8} {m : List (List UInt8 × Value × Nat)} {C : Obj → Blks} {z : Value} {sz by' : Nat} {de : TypeDesc}
    (ht : P.underlying t = some (.map kt et)) (hk : P.underlying kt = some .string) (he : Ty P et de sz by' z) (hx : ev ρ x = some (.map (some b))) (hy : ev ρ y = some (str k)) [hA : At Γ b (.map (Es m) clock) C] :
    Yl P n ρ F Γ (.lookup t x y false) ty ((findM m k).getD z) := fun d pos af g a w ha hw => by
  have hb := hA.get hw
  have hg : (getObj b).run P w = .ok (.map (Es m) clock) w := by simp [getObj, Sem.run, hb]
  have hz := he.zero w
  have h1 := findKey_str (P := P) hk k m w
  have h2 := checkKey_str (P := P) hk (Es m).isEmpty k w
  simp only [execOp, ha.eval hx, ha.eval hy, Instr.lookup, underlying, Sem.run_bind, run_program, Result.andThen_ok, ht, Sem.run_pure, hg, h1, h2]
  rw [findM_eq]
  cases hf : m.findIdx? (fun y => decide (k = y.1)) with
  | none => simp [hz]
  | some j =>
    have hj : j < m.length := by
      have := List.findIdx?_eq_some_iff_findIdx_eq.1 hf
      exact this.1
    simp [hj]

/-- A map is made. -/
theorem e_makeMap {d : Nat} {t ty : TypeId} {pos : String} {af : Array Edge} {g : Option (Nat × Bool)} {K : Act → World → Prop} (hd : Nat.blt d n = true)
    (kk : ∀ b, PW X n ((d, .map (some b)) :: ρ) F ((b, .map (Es []) 0) :: Γ) K) : PW X n ρ F Γ (fun a w => (Oper.mk (some d) (.makeMap t none) ty pos af g).wp P a w K Q) :=
  e_new (S := fun v F' Γ' => ∃ b, v = .map (some b) ∧ F' = F ∧ Γ' = (b, .map (Es []) 0) :: Γ) hd
    (fun a w ha hw => ⟨_, _, _, _, by simp [execOp, Instr.makeMap]; rfl, ⟨_, rfl, rfl, rfl⟩, hw.push _⟩)
    (by rintro _ _ _ ⟨b, rfl, rfl, rfl⟩; exact kk b)

/-- A store by a text that is not there. -/
theorem e_mapNew {t kt et ty : TypeId} {x y z : Operand} {pos : String} {af : Array Edge} {g : Option (Nat × Bool)} {K : Act → World → Prop} {b clock : Nat} {k : List UInt8} {v : Value} {m : List (List UInt8 × Value × Nat)} {C : Obj → Blks}
    (ht : P.underlying t = some (.map kt et)) (hk : P.underlying kt = some .string) (hx : ev ρ x = some (.map (some b))) (hy : ev ρ y = some (str k)) (hz : ev ρ z = some v) [hA : At Γ b (.map (Es m) clock) C] (hm : findM m k = none)
    (kk : PW X n ρ F (C (.map (Es (m ++ [(k, v, clock)])) (clock + 1))) K) : PW X n ρ F Γ (fun a w => (Oper.mk none (.mapUpdate t x y z) ty pos af g).wp P a w K Q) :=
  e_unit (fun a w ha hw => ⟨_, by
    have hb := hA.get hw.hp
    have hg : (getObj b).run P w = .ok (.map (Es m) clock) w := by simp [getObj, Sem.run, hb]
    have h1 := findKey_str (P := P) hk k m w
    have h2 := checkKey_str (P := P) hk false k w
    have h3 : m.findIdx? (fun y => decide (k = y.1)) = none := by
      rw [findM_eq] at hm
      cases hf : m.findIdx? (fun y => decide (k = y.1)) with
      | none => rfl
      | some j =>
        rw [hf] at hm
        have := List.findIdx?_eq_some_iff_findIdx_eq.1 hf
        simp [this.1] at hm
    have h4 : (Es m).push ⟨str k, v, clock⟩ = Es (m ++ [(k, v, clock)]) := by simp [Es]
    have hs : (setObj b (.map (Es (m ++ [(k, v, clock)])) (clock + 1))).run P w = .ok () { w with heap := w.heap.setIfInBounds b (.map (Es (m ++ [(k, v, clock)])) (clock + 1)) } := by simp [setObj, Sem.run, hb]
    simp only [execOp, ha.eval hx, ha.eval hy, ha.eval hz, Instr.mapUpdate, underlying, Sem.run_bind, run_program, Result.andThen_ok, ht, Sem.run_pure, hg, h1, h2, h3, h4, hs]
    rfl, At.set hw⟩) kk
theorem findM_app (k : List UInt8) (v : Value) (c : Nat) (x : List UInt8) : ∀ (m : List (List UInt8 × Value × Nat)), findM m k = none → findM (m ++ [(k, v, c)]) x = if x = k then some v else findM m x
  | [], _ => by simp [findM]
  | (j, u, b) :: m, h => by
    simp only [findM] at h
    split at h
    · cases h
    · rename_i hne
      simp only [List.cons_append, findM, findM_app k v c x m h]
      by_cases hxj : x = j
      · have : x ≠ k := by rw [hxj]; exact Ne.symm hne
        simp [hxj, Ne.symm hne]
      · simp [hxj]
theorem findM_mod (k : List UInt8) (v : Value) (x : List UInt8) : ∀ (m : List (List UInt8 × Value × Nat)) (j : Nat), m.findIdx? (fun y => decide (k = y.1)) = some j →
    findM (m.modify j fun y => (k, v, y.2.2)) x = if x = k then some v else findM m x
  | [], j, h => by simp at h
  | (i, u, b) :: m, j, h => by
    rw [List.findIdx?_cons] at h
    by_cases hki : k = i
    · subst hki
      simp at h
      subst h
      simp only [List.modify_cons, findM, if_true]
      by_cases hx : x = k <;> simp [hx]
    · simp only [hki, decide_false, Bool.false_eq_true, if_false] at h
      cases hj : m.findIdx? (fun y => decide (k = y.1)) with
      | none => simp [hj] at h
      | some q =>
        simp [hj] at h
        subst h
        simp only [List.modify_succ_cons, findM, findM_mod k v x m q hj]
        by_cases hxi : x = i
        · have : x ≠ k := by rw [hxi]; exact Ne.symm hki
          simp [hxi, Ne.symm hki]
        · simp [hxi]
theorem sameBits_str (x : List UInt8) : Instr.sameBits 10000 (str x) (str x) = true := by
  show Instr.sameBits (9999 + 1) (str x) (str x) = true
  simp [Instr.sameBits, beq_toListBytes]

/-- A store by a text. -/
theorem e_mapPut {t kt et ty : TypeId} {x y z : Operand} {pos : String} {af : Array Edge} {g : Option (Nat × Bool)} {K : Act → World → Prop} {b clock : Nat} {k : List UInt8} {v : Value} {m : List (List UInt8 × Value × Nat)} {C : Obj → Blks}
    (ht : P.underlying t = some (.map kt et)) (hk : P.underlying kt = some .string) (hx : ev ρ x = some (.map (some b))) (hy : ev ρ y = some (str k)) (hz : ev ρ z = some v) [hA : At Γ b (.map (Es m) clock) C]
    (kk : ∀ m' c', (∀ x, findM m' x = if x = k then some v else findM m x) → PW X n ρ F (C (.map (Es m') c')) K) : PW X n ρ F Γ (fun a w => (Oper.mk none (.mapUpdate t x y z) ty pos af g).wp P a w K Q) := by
  cases hm : findM m k with
  | none => exact e_mapNew ht hk hx hy hz hm (kk _ _ fun x => findM_app k v clock x m hm)
  | some u =>
    cases hf : m.findIdx? (fun y => decide (k = y.1)) with
    | none => rw [findM_eq, hf] at hm; cases hm
    | some j =>
      refine e_unit (F' := F) (Γ' := C (.map (Es (m.modify j fun y => (k, v, y.2.2))) clock)) (fun a w ha hw => ⟨_, by
        have hb := hA.get hw.hp
        have hg : (getObj b).run P w = .ok (.map (Es m) clock) w := by simp [getObj, Sem.run, hb]
        have h1 := findKey_str (P := P) hk k m w
        have h2 := checkKey_str (P := P) hk false k w
        obtain ⟨hj, hkj, -⟩ := List.findIdx?_eq_some_iff_getElem.1 hf
        have hkj' : k = m[j].1 := by simpa using hkj
        have h3 : (Es m)[j]? = some ⟨str k, m[j].2.1, m[j].2.2⟩ := by simp [Es, hj, ← hkj']
        have h4 : (Es m).modify j (fun e => { e with key := str k, val := v }) = Es (m.modify j fun y => (k, v, y.2.2)) := by
          apply Array.toList_inj.1
          simp only [Es, Array.toList_modify]
          apply List.ext_getElem?
          intro i
          simp only [List.getElem?_modify, List.getElem?_map]
          by_cases hij : j = i
          · subst hij; simp [hj]
          · simp [hij]
        have h5 : (Instr.keyThatStays (((((Es m)[j]?).map (·.key)).getD (str k))) (str k)).run P w = .ok (str k) w := by rw [h3]; simp [Instr.keyThatStays, sameBits_str]
        have hs : (setObj b (.map (Es (m.modify j fun y => (k, v, y.2.2))) clock)).run P w = .ok () { w with heap := w.heap.setIfInBounds b (.map (Es (m.modify j fun y => (k, v, y.2.2))) clock) } := by simp [setObj, Sem.run, hb]
        rw [hf] at h1
        simp only [List.getElem?_eq_getElem hj, Option.map_some] at h1
        simp only [execOp, ha.eval hx, ha.eval hy, ha.eval hz, Instr.mapUpdate, underlying, Sem.run_bind, run_program, Result.andThen_ok, ht, Sem.run_pure, hg, h1, h2, h5, h4, hs]
        rfl, At.set hw⟩) (kk _ _ fun x => findM_mod k v x m j hf)
/-- A look-up by a text in the frozen heap. -/
theorem y_lookF {t kt et ty : TypeId} {x y : Operand} {b clock : Nat} {k : List UInt8} {m : List (List UInt8 × Value × Nat)} {z : Value} {sz by' : Nat} {de : TypeDesc}
    (ht : P.underlying t = some (.map kt et)) (hk : P.underlying kt = some .string) (he : Ty P et de sz by' z) (hx : ev ρ x = some (.map (some b))) (hy : ev ρ y = some (str k)) (hF : F b = some (.map (Es m) clock)) :
    Yl P n ρ F Γ (.lookup t x y false) ty ((findM m k).getD z) := fun d pos af g a w ha hw => by
  have hb := hw.fr _ _ hF
  have hA : At [(b, Obj.map (Es m) clock)] b (.map (Es m) clock) (fun o' => [(b, o')]) := At.here b _ []
  exact y_look (ρ := ρ) (n := n) (F := fun _ => none) (Γ := [(b, Obj.map (Es m) clock)]) ht hk he hx hy d pos af g a w ha ⟨fun _ _ h => (by cases h), fun p hp => by rw [List.mem_singleton.1 hp]; exact hb⟩

theorem y_lookQ {t kt et ty : TypeId} {x y : Operand} {b clock : Nat} {k : List UInt8} {m : List (List UInt8 × Value × Nat)} {z : Value} {sz by' : Nat} {de : TypeDesc} {q : List UInt8 → Bool}
    (ht : P.underlying t = some (.map kt et)) (hk : P.underlying kt = some .string) (he : Ty P et de sz by' z) (hx : ev ρ x = some (.map (some b))) (hy : ev ρ y = some (str k)) (hF : F b = some (.map (Es m) clock)) (hq : ∀ x, (findM m x).getD z = .bool (q x)) :
    Yl P n ρ F Γ (.lookup t x y false) ty (.bool (q k)) := by rw [← hq]; exact y_lookF ht hk he hx hy hF

theorem part_int {k : IntKind} {T : TypeId} {sz by' : Nat} {z : Value} (h : Ty P T (.int k) sz by' z) {c : Array Value} {i : Nat} {v : Value} (hv : c[i]? = some v) (w : World) : (part T c i).run P w = .ok v w := by
  have := h.u
  simp [part, isAgg, underlying, this, hv]
theorem eqIn_int (q : Nat) {t : TypeId} {k : IntKind} (h : P.underlying t = some (.int k)) (a b : Int) (w : World) : (Op.equalIn (q + 1) t (.int k a) (.int k b)).run P w = .ok (a == b) w := by
  simp [Op.equalIn, underlying, h]

theorem eqIn2 (q : Nat) {t : TypeId} {a b c d : Int} {k k' : IntKind} {f0 f1 : Field} {s0 s1 b0 b1 : Nat} {z0 z1 : Value} (hu : P.underlying t = some (.struct #[f0, f1]))
    (h0 : Ty P f0.type (.int k) s0 b0 z0) (h1 : Ty P f1.type (.int k') s1 b1 z1) (hn : (f0.name ≠ "_" ∧ f1.name ≠ "_") ∧ f0.offset = 0 ∧ f1.offset = 1) (hs : P.stoodInHeld t = false) (w : World) :
    (Op.equalIn (q + 1 + 1) t (.agg (List.toArray [.int k a, .int k' b])) (.agg (List.toArray [.int k c, .int k' d]))).run P w = .ok (decide (a = c ∧ b = d)) w := by
  obtain ⟨⟨n0, n1⟩, o0, o1⟩ := hn
  have e0 := fun a b w => eqIn_int (P := P) q h0.u a b w
  have e1 := fun a b w => eqIn_int (P := P) q h1.u a b w
  have p0 := part_int (v := .int k a) h0 (c := (List.toArray [.int k a, .int k' b])) (i := 0) rfl w
  have p1 := part_int (v := .int k' b) h1 (c := (List.toArray [.int k a, .int k' b])) (i := 1) rfl w
  have p2 := part_int (v := .int k c) h0 (c := (List.toArray [.int k c, .int k' d])) (i := 0) rfl w
  have p3 := part_int (v := .int k' d) h1 (c := (List.toArray [.int k c, .int k' d])) (i := 1) rfl w
  generalize hq : q + 1 = r at *
  unfold Op.equalIn
  simp only [Sem.run_bind, underlying, run_program, Result.andThen_ok, hu, Sem.run_pure, hs, Bool.false_eq_true, if_false]
  simp [n0, n1, o0, o1, p0, p1, p2, p3, e0, e1]
  by_cases hac : a = c
  · subst hac
    by_cases hbd : b = d
    · subst hbd
      simp
    · simp [hbd]
  · simp [hac]

/-- Two structs of two numbers. -/
theorem y_eq2 {t u ty : TypeId} {x y : Operand} {a b c d : Int} {k k' : IntKind} {f0 f1 : Field} {s0 s1 b0 b1 : Nat} {z0 z1 : Value} (hu : P.underlying t = some (.struct #[f0, f1]))
    (h0 : Ty P f0.type (.int k) s0 b0 z0) (h1 : Ty P f1.type (.int k') s1 b1 z1) (hn : (f0.name ≠ "_" ∧ f1.name ≠ "_") ∧ f0.offset = 0 ∧ f1.offset = 1) (hs : P.stoodInHeld t = false) (hg : P.eqGuardType P.depth t = false)
    (hx : ev ρ x = some (.agg (List.toArray [.int k a, .int k' b]))) (hy : ev ρ y = some (.agg (List.toArray [.int k c, .int k' d]))) : Yl P n ρ F Γ (.binOp .eql t x y u) ty (.bool (decide (a = c ∧ b = d))) := fun d' pos af g c' w ha hw => by
  have h2 : (Op.equal t (.agg (List.toArray [.int k a, .int k' b])) (.agg (List.toArray [.int k c, .int k' d]))).run P w = .ok (decide (a = c ∧ b = d)) w := eqIn2 9998 hu h0 h1 hn hs w
  simp [execOp, ha.eval hx, ha.eval hy, eqGuard, hg, binOp, h2]

/-- A call whose contract does not speak of the frozen heap. -/
theorem e_callK {d : Nat} {go : Operand} {args : Array Operand} {ats : Array TypeId} {ty : TypeId} {pos : String} {af : Array Edge} {g : Option (Nat × Bool)} {K : Act → World → Prop} {f : FuncId} {vs cs : List Value} {Γ1 Γ2 : Blks} {R : Value → Blks → Prop}
    (hg : ev ρ go = some (.func (.func f) #[] cs.toArray)) (ha : evL ρ args.toList = some vs) (hC : Fn P f (vs ++ cs) F Γ1 (fun v _ Γ' => R v Γ')) (hp : Γ.Perm (Γ1 ++ Γ2)) (hd : Nat.blt d n = true)
    (k : ∀ v Γ', R v Γ' → PW X n ((d, v) :: ρ) F (Γ' ++ Γ2) K) :
    PW X n ρ F Γ (fun a w => (Oper.mk (some d) (.call ⟨.value go, args, ats⟩) ty pos af g).wp P a w K Q) := by
  intro a w hag hw
  refine e_call hg ha hC hp hd (K := K) (fun v F' Γ' hR hle => ?_) a w hag hw
  exact fun a' w' ha' hw' => k v Γ' hR a' w' ha' (hw'.forget hw.up hle)

abbrev encB (c : UInt8) : List Value := [.int .u8 (c.toNat : Int)]
theorem encB_len (c : UInt8) : (encB c).length = 1 := rfl
theorem bytes_flat (l : List UInt8) : bytesV l = l.flatMap encB := by induction l <;> simp_all
theorem Src.bytes {v : Value} {l : List UInt8} (h : SlAt F encB v l) : Src P F Γ 1 v l.length (bytesV l) := by
  rw [bytes_flat]; exact Src.frozen encB_len h
end
end Go.SL
