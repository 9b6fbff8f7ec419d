/- Composite values, conversions, sources of append. No condition. -/
import Derived.Test.YtgefikehhcgdnaaGreatDoorSlice
namespace Go.SL

abbrev bytesV (l : List UInt8) : List Value := l.map fun c => .int .u8 (c.toNat : Int)

theorem flat_bytes : ∀ (l : List UInt8), flatL (bytesV l) = true
  | [] => rfl
  | _ :: l => by simpa [flatL, one1] using flat_bytes l

section
variable {P : Program} {X : Cx} {n : Nat} {ρ : Regs} {F : FH} {Γ : Blks} {Q : Exit → Act → World → Prop} {ops : Array Oper} {rest : List Oper}

theorem y_conv {s t ty : TypeId} {x : Operand} {k k' : IntKind} {a : Int} {z1 z2 b1 b2 : Nat} {v1 v2 : Value} {de : TypeDesc}
    (hs : Ty P s de z1 b1 v1) (ht : Ty P t (.int k) z2 b2 v2) (hx : ev ρ x = some (.int k' a)) :
    Yl P n ρ F Γ (.convert s t x) ty (.int k (k.wrap a)) := fun d pos af g a w ha hw => by
    have h1 := hs.u
    have h2 := ht.u
    simp only [execOp, ha.eval hx, convert, underlying, Sem.run_bind, run_program, Result.andThen_ok, h1, h2, Sem.run_pure]
    cases de <;> simp [Conv.intToInt]

theorem y_convI {s t ty : TypeId} {x : Operand} {k' : IntKind} {a : Int} {z1 z2 b1 b2 : Nat} {v1 v2 : Value} {de : TypeDesc}
    (hs : Ty P s de z1 b1 v1) (ht : Ty P t (.int .i64) z2 b2 v2) (hx : ev ρ x = some (.int k' a)) (hr : -9223372036854775808 ≤ a ∧ a ≤ 9223372036854775807) :
    Yl P n ρ F Γ (.convert s t x) ty (int a) := by
  have h := y_conv (P := P) (n := n) (F := F) (Γ := Γ) (ty := ty) hs ht hx
  rwa [wrap_i64 hr] at h

/-- A text's bytes, in a block of the walk's own. -/
theorem e_s2b {d : Nat} {s t e ty : TypeId} {x : Operand} {pos : String} {af : Array Edge} {g : Option (Nat × Bool)} {K : Act → World → Prop} {l : List UInt8} {z1 z2 b1 b2 z3 b3 : Nat} {v1 v2 v3 : Value}
    (hs : Ty P s .string z1 b1 v1) (ht : Ty P t (.slice e) z2 b2 v2) (he : Ty P e (.int .u8) z3 b3 v3) (hx : ev ρ x = some (str l)) (hd : Nat.blt d n = true)
    (kk : ∀ v Γo, Own e 1 (bytesV l) l.length v Γo → PW X n ((d, v) :: ρ) F (Γo ++ Γ) K) : PW X n ρ F Γ (fun a w => (Oper.mk (some d) (.convert s t x) ty pos af g).wp P a w K Q) := by
  refine e_new (S := fun v' F' Γ' => ∃ Γo, Own e 1 (bytesV l) l.length v' Γo ∧ F' = F ∧ Γ' = Γo ++ Γ) hd (fun a w ha hw => ?_) (by rintro v' _ _ ⟨Γo', h1, rfl, rfl⟩; exact kk v' Γo' h1)
  have hge := grownCap_ge w l.length 0 e
  let c : List Value := bytesV l ++ List.replicate (grownCap w l.length 0 e - l.length) (.int .u8 0)
  have hc : c.length = grownCap w l.length 0 e := by simp [c]; omega
  refine ⟨.slice (some ⟨w.heap.size, 0, none⟩) l.length (grownCap w l.length 0 e), F, (w.heap.size, .cells (List.toArray c) e (c.length, c.length + 1)) :: Γ, _, ?_, ⟨[_], ⟨by simp, .inr ⟨w.heap.size, _, _, (c.length, c.length + 1), rfl, rfl, ?_, hge, ?_⟩⟩, rfl, rfl⟩, (hw.drawn (w.drawn + 1)).push (.cells (List.toArray c) e (c.length, c.length + 1))⟩
  · have h1 := hs.u
    have h2 := ht.u
    have h3 := he.u
    have hq : (choose (Question.appendCap l.length 0 e)).run P w = .ok (grownCap w l.length 0 e) { w with drawn := w.drawn + 1 } := by
      simp [Question.forced, grownCap]
    have e1 : (Array.map (fun b : UInt8 => Value.int IntKind.u8 (b.toNat : Int)) (ByteArray.mk l.toArray).data ++ Array.replicate (grownCap w l.length 0 e - (ByteArray.mk l.toArray).size) (Value.int .u8 0)) = List.toArray c := by
      apply Array.ext'; simp [c, bsz]
    have e2 : (markStringish ⟨w.heap.size, 0, none⟩).run P { w with drawn := w.drawn + 1, heap := w.heap.push (.cells (List.toArray c) e) } = .ok () { w with drawn := w.drawn + 1, heap := w.heap.push (.cells (List.toArray c) e (c.length, c.length + 1)) } := by
      have hsh : ({ w with drawn := w.drawn + 1, heap := w.heap.push (.cells (List.toArray c) e) } : World).shape? w.heap.size = some (e, c.length) := by simp [World.shape?]
      simp only [markStringish, Sem.run_bind, run_shape, hsh, Result.andThen_ok, run_freeze]
      congr 1
      simp only [World.freeze, Nat.one_ne_zero, if_false]
      congr 1
      apply Array.ext_getElem?
      intro j
      rw [Array.getElem?_modify]
      by_cases hj : w.heap.size = j
      · subst hj; simp
      · simp only [hj, if_false]
        rcases Nat.lt_or_ge j w.heap.size with h | h
        · rw [Array.getElem?_push_lt h, Array.getElem?_push_lt h]
        · rw [Array.getElem?_eq_none (by simp; omega), Array.getElem?_eq_none (by simp; omega)]
    simp only [execOp, ha.eval hx, convert, underlying, Sem.run_bind, run_program, Result.andThen_ok, h1, h2, h3, Sem.run_pure, Conv.stringToBytes, bsz, hq, newRow, run_newObj]
    rw [bsz] at e1
    rw [e1, e2]
    rfl
  · simp; omega
  · intro j h1 h2 h3; simp at h3; omega

/-- The same, with the block named. -/
theorem e_s2b' {d : Nat} {s t e ty : TypeId} {x : Operand} {pos : String} {af : Array Edge} {g : Option (Nat × Bool)} {K : Act → World → Prop} {l : List UInt8} {z1 z2 b1 b2 z3 b3 : Nat} {v1 v2 v3 : Value}
    (hs : Ty P s .string z1 b1 v1) (ht : Ty P t (.slice e) z2 b2 v2) (he : Ty P e (.int .u8) z3 b3 v3) (hx : ev ρ x = some (str l)) (hd : Nat.blt d n = true)
    (kk : ∀ b cap junk fz, l.length + junk.length = cap → noFz fz 0 cap → PW X n ((d, .slice (some ⟨b, 0, none⟩) l.length cap) :: ρ) F ((b, .cells (List.toArray (bytesV l ++ junk)) e fz) :: Γ) K) :
    PW X n ρ F Γ (fun a w => (Oper.mk (some d) (.convert s t x) ty pos af g).wp P a w K Q) := by
  refine e_new (S := fun v' F' Γ' => ∃ b cap junk fz, v' = .slice (some ⟨b, 0, none⟩) l.length cap ∧ F' = F ∧ Γ' = (b, .cells (List.toArray (bytesV l ++ junk)) e fz) :: Γ ∧ l.length + junk.length = cap ∧ noFz fz 0 cap) hd
    (fun a w ha hw => ?_) (by rintro _ _ _ ⟨b, cap, junk, fz, rfl, rfl, rfl, h1, h2⟩; exact kk b cap junk fz h1 h2)
  have hge := grownCap_ge w l.length 0 e
  let c : List Value := bytesV l ++ List.replicate (grownCap w l.length 0 e - l.length) (.int .u8 0)
  have hc : c.length = grownCap w l.length 0 e := by simp [c]; omega
  refine ⟨.slice (some ⟨w.heap.size, 0, none⟩) l.length (grownCap w l.length 0 e), F, (w.heap.size, .cells (List.toArray c) e (c.length, c.length + 1)) :: Γ, _, ?_, ⟨_, _, _, _, rfl, rfl, rfl, ?_, ?_⟩, (hw.drawn (w.drawn + 1)).push (.cells (List.toArray c) e (c.length, c.length + 1))⟩
  · have h1 := hs.u
    have h2 := ht.u
    have h3 := he.u
    have hq : (choose (Question.appendCap l.length 0 e)).run P w = .ok (grownCap w l.length 0 e) { w with drawn := w.drawn + 1 } := by
      simp [Question.forced, grownCap]
    have e1 : (Array.map (fun b : UInt8 => Value.int IntKind.u8 (b.toNat : Int)) (ByteArray.mk l.toArray).data ++ Array.replicate (grownCap w l.length 0 e - (ByteArray.mk l.toArray).size) (Value.int .u8 0)) = List.toArray c := by
      apply Array.ext'; simp [c, bsz]
    have e2 : (markStringish ⟨w.heap.size, 0, none⟩).run P { w with drawn := w.drawn + 1, heap := w.heap.push (.cells (List.toArray c) e) } = .ok () { w with drawn := w.drawn + 1, heap := w.heap.push (.cells (List.toArray c) e (c.length, c.length + 1)) } := by
      have hsh : ({ w with drawn := w.drawn + 1, heap := w.heap.push (.cells (List.toArray c) e) } : World).shape? w.heap.size = some (e, c.length) := by simp [World.shape?]
      simp only [markStringish, Sem.run_bind, run_shape, hsh, Result.andThen_ok, run_freeze]
      congr 1
      simp only [World.freeze, Nat.one_ne_zero, if_false]
      congr 1
      apply Array.ext_getElem?
      intro j
      rw [Array.getElem?_modify]
      by_cases hj : w.heap.size = j
      · subst hj; simp
      · simp only [hj, if_false]
        rcases Nat.lt_or_ge j w.heap.size with h | h
        · rw [Array.getElem?_push_lt h, Array.getElem?_push_lt h]
        · rw [Array.getElem?_eq_none (by simp; omega), Array.getElem?_eq_none (by simp; omega)]
    simp only [execOp, ha.eval hx, convert, underlying, Sem.run_bind, run_program, Result.andThen_ok, h1, h2, h3, Sem.run_pure, Conv.stringToBytes, bsz, hq, newRow, run_newObj]
    rw [bsz] at e1
    rw [e1, e2]
    rfl
  · simp; omega
  · intro j h1 h2 h3; simp at h3; omega

theorem bytesToString_run {a : Addr} {len cap : Nat} {l : List UInt8} {w : World} (h : (loadCells a len).run P w = .ok (bytesV l).toArray w) : (Conv.bytesToString (.slice (some a) len cap)).run P w = .ok (str l) w := by
  have h2 := run_bytesToString (P := P) w a len cap (l.map fun c => (c.toNat : Int)) (by simpa [Function.comp_def] using h)
  rw [h2]
  have key : ∀ (l : List UInt8) (m : List UInt8), (l.map fun c => (c.toNat : Int)).foldl (fun (r : ByteArray) (k : Int) => r.push (UInt8.ofNat k.toNat)) ⟨m.toArray⟩ = ⟨(m ++ l).toArray⟩ := by
    intro l
    induction l with
    | nil => intro m; simp
    | cons c l ih =>
      intro m
      simp only [List.map_cons, List.foldl_cons, Int.toNat_natCast, UInt8.ofNat_toNat]
      have : (ByteArray.mk m.toArray).push c = ⟨(m ++ [c]).toArray⟩ := by simp [ByteArray.push]
      rw [this, ih]
      simp
  have := key l []
  simp only [List.nil_append] at this
  exact congrArg (fun s => Result.ok (Value.string s) w) this

/-- Bytes as a text. -/
theorem y_b2s {s t e ty : TypeId} {x : Operand} {l : List UInt8} {v : Value} {z1 z2 b1 b2 z3 b3 : Nat} {v1 v2 v3 : Value}
    (hs : Ty P s (.slice e) z1 b1 v1) (ht : Ty P t .string z2 b2 v2) (he : Ty P e (.int .u8) z3 b3 v3) (hx : ev ρ x = some v) (hS : Src P F Γ 1 v l.length (bytesV l)) (hv : ∃ a n c, v = .slice a n c) :
    Yl P n ρ F Γ (.convert s t x) ty (str l) := fun d pos af g a w ha hw => by
    obtain ⟨hl, hS⟩ := hS
    obtain ⟨h1, h2⟩ := hS w hw
    obtain ⟨b, m, c, rfl⟩ := hv
    have g1 := hs.u
    have g2 := ht.u
    have g3 := he.u
    have hr : (Conv.bytesToString (.slice b m c)).run P w = .ok (str l) w := by
      cases b with
      | none =>
        simp only [Builtin.firstCells, Sem.run_pure, Result.ok.injEq, and_true] at h2
        have : l = [] := by
          have := congrArg Array.size h2
          simp at this
          exact List.length_eq_zero_iff.1 this.symm
        subst this
        simp [Conv.bytesToString]
        rfl
      | some b =>
        simp only [Builtin.lenOf, Sem.run_pure, Result.ok.injEq, and_true] at h1
        subst h1
        simp only [Builtin.firstCells, Nat.mul_one] at h2
        exact bytesToString_run h2
    simp only [execOp, ha.eval hx, convert, underlying, Sem.run_bind, run_program, Result.andThen_ok, g1, g2, g3, Sem.run_pure, hr]

theorem Src.str {l : List UInt8} : Src P F Γ 1 (str l) l.length (bytesV l) := ⟨by simp, fun w hw => ⟨by simp [Builtin.lenOf, bsz], by
  have : ((ByteArray.mk l.toArray).extract 0 l.length) = ⟨l.toArray⟩ := by rw [extract_str]; simp
  simp [Builtin.firstCells, this]⟩⟩

theorem Src.nil {sz : Nat} : Src P F Γ sz (.slice none 0 0) 0 [] := ⟨by simp, fun w hw => ⟨by simp [Builtin.lenOf], by simp [Builtin.firstCells]⟩⟩

theorem Src.own {T : TypeId} {sz len : Nat} {cs : List Value} {v : Value} {Γo Γr : Blks} (h : Own T sz cs len v Γo) (hp : Γ.Perm (Γo ++ Γr)) : Src P F Γ sz v len cs := by
  obtain ⟨hl, h⟩ := h
  refine ⟨hl, fun w hw => ?_⟩
  rcases h with ⟨rfl, rfl, rfl⟩ | ⟨b, cap, junk, fz, rfl, rfl, hcap, hle, hfz⟩
  · have : cs = [] := by simpa using hl
    subst this
    exact ⟨by simp [Builtin.lenOf], by simp [Builtin.firstCells]⟩
  · have hblk := (hw.perm hp).own (b, .cells (List.toArray (cs ++ junk)) T fz) (by simp)
    refine ⟨by simp [Builtin.lenOf], ?_⟩
    simp only [Builtin.firstCells]
    rw [← hl]
    exact run_loadCells_list _ ⟨b, 0, none⟩ cs (fun j v hj => by
      rw [add_off, cell_of hblk]
      have hlt := (List.getElem?_eq_some_iff.1 hj).1
      simp [List.getElem?_append_left hlt, hj])

theorem Src.cs {b off cap k sz : Nat} {news : List Value} (h : Cs F b off news) (hl : news.length = k * sz) : Src P F Γ sz (.slice (some ⟨b, off, none⟩) k cap) k news :=
  ⟨hl, fun w hw => ⟨by simp [Builtin.lenOf], by
    simp only [Builtin.firstCells]
    rw [← hl]
    exact run_loadCells_list _ ⟨b, off, none⟩ news (fun j v hj => by rw [add_off]; exact h.cell hw hj)⟩⟩

theorem Src.frozen {α : Type} {enc : α → List Value} {sz : Nat} {v : Value} {l : List α} (he : ∀ x, (enc x).length = sz) (h : SlAt F enc v l) : Src P F Γ sz v l.length (l.flatMap enc) := by
  rcases h with ⟨rfl, a, cap, rfl⟩ | ⟨b, off, cap, rfl, h2, h3⟩
  · exact ⟨by simp, fun w hw => ⟨by simp [Builtin.lenOf], by cases a <;> simp [Builtin.firstCells, loadCells, loadCellsFrom]⟩⟩
  · exact Src.cs h3 (flatMap_len he l)

theorem Src.lit {b off cap k sz : Nat} {c news : List Value} {u : TypeId} {fz : Nat × Nat} {C : Obj → Blks} [hA : At Γ b (.cells (List.toArray c) u fz) C] (hs : seg c off (k * sz) = some news) : Src P F Γ sz (.slice (some ⟨b, off, none⟩) k cap) k news := by
  obtain ⟨h1, h2⟩ := seg_spec hs
  refine ⟨h1, fun w hw => ⟨by simp [Builtin.lenOf], ?_⟩⟩
  simp only [Builtin.firstCells]
  rw [← h1]
  exact run_loadCells_list _ ⟨b, off, none⟩ news (fun j v hj => by
    rw [add_off, cell_of (hA.get hw)]; simpa using h2 j v hj)

/-- A composite's cells. -/
def fillL (place : Nat → Option (Nat × Nat)) (c : List Value) : List (Nat × Value) → Option (List Value)
  | [] => some c
  | (i, v) :: r => match place i with
    | some (off, sz) => bif Nat.beq (cellsL v).length sz then
        match upd c off (cellsL v) with
        | some c' => fillL place c' r
        | none => none
      else none
    | none => none

theorem upd_le : ∀ {c : List Value} {o : Nat} {l c' : List Value}, upd c o l = some c' → o + l.length ≤ c.length
  | [], 0, [], _, _ => by simp
  | _ :: _, 0, [], _, _ => by simp
  | [], 0, _ :: _, _, h => by simp [upd] at h
  | [], _ + 1, [], _, h => by simp [upd] at h
  | [], _ + 1, _ :: _, _, h => by simp [upd] at h
  | _ :: c, 0, v :: r, c', h => by
    simp only [upd] at h
    split at h
    · rename_i hm; have := upd_le hm; simp at this ⊢; omega
    · simp at h
  | u :: c, o + 1, r, c', h => by
    have h' : ∃ m, upd c o r = some m := by
      cases r <;> simp only [upd] at h <;> split at h <;> first | exact ⟨_, ‹_›⟩ | simp at h
    obtain ⟨m, hm⟩ := h'
    have := upd_le hm; simp; omega

theorem upd_end : ∀ {c c' : List Value} {o : Nat}, upd c o [] = some c' → c = c'
  | [], c', 0, h => by simpa [upd] using h
  | _ :: _, c', 0, h => by simpa [upd] using h
  | [], c', _ + 1, h => by simp [upd] at h
  | x :: c, c', o + 1, h => by
    simp only [upd] at h
    split at h
    · rename_i m hm; simp at h; rw [← h, upd_end hm]
    · simp at h

theorem upd_fold (off : Nat) : ∀ (l : List Value) (k : Nat) (c c' : List Value), upd c (off + k) l = some c' →
    (l.zipIdx k).foldl (fun (cs : Array Value) (x : Value × Nat) => cs.setIfInBounds (off + x.2) x.1) c.toArray = c'.toArray
  | [], k, c, c', h => by simp [upd_end h]
  | v :: l, k, c, c', h => by
    obtain ⟨h1, h2⟩ := upd_cons h
    simp only [List.zipIdx_cons, List.foldl_cons, List.setIfInBounds_toArray]
    exact upd_fold off l (k + 1) _ _ h2

theorem fill_eq {place : Nat → Option (Nat × Nat)} : ∀ {parts : List (Nat × Value)} {c c' : List Value}, fillL place c parts = some c' → Instr.fill place c.toArray parts = some c'.toArray
  | [], c, c', h => by simp [fillL] at h; simp [Instr.fill, h]
  | (i, v) :: r, c, c', h => by
    simp only [fillL] at h
    split at h
    · rename_i off sz hp
      cases hb : Nat.beq (cellsL v).length sz with
      | false => rw [hb] at h; simp at h
      | true =>
        rw [hb] at h
        simp only [cond_true] at h
        split at h
        · rename_i m hm
          have hsz := Nat.eq_of_beq_eq_true hb
          have hle := upd_le hm
          have hf := upd_fold off (cellsL v) 0 c m (by simpa using hm)
          have ih := fill_eq h
          have hcond : (v.cells.size ≠ sz || off + v.cells.size > c.toArray.size) = false := by
            rw [cellsL_eq]; simp; omega
          unfold Instr.fill
          rw [hp]
          simp only [hcond, Bool.false_eq_true, if_false]
          rw [← ih]
          congr 1
          rw [← hf, cellsL_eq, ← Array.foldl_toList, Array.toList_zipIdx]
        · simp at h
    · simp at h

def partsL (ρ : Regs) : List (Nat × Operand) → Option (List (Nat × Value))
  | [] => some []
  | (i, x) :: r => match ev ρ x with
    | some v => match partsL ρ r with
      | some l => some ((i, v) :: l)
      | none => none
    | none => none

theorem partsL_eq {a : Act} (ha : Agree n ρ a) : ∀ {ps : List (Nat × Operand)} {l : List (Nat × Value)}, partsL ρ ps = some l → (ps.map fun x => (x.1, a.eval x.2)) = l
  | [], l, h => by simp [partsL] at h; simp [← h]
  | (i, x) :: r, l, h => by
    simp only [partsL] at h
    split at h
    · rename_i v hv
      split at h
      · rename_i m hm
        simp at h
        simp [ha.eval hv, partsL_eq ha hm, ← h]
      · simp at h
    · simp at h

/-- A struct type: its fields' places, its zero cells. -/
def Pl (P : Program) (t : TypeId) (pl : List (Nat × Nat)) (z : List Value) : Prop :=
  ∃ fs zv, P.underlying t = some (.struct fs) ∧ (∀ w, (fs.mapM (m := Sem) fun f => do pure (f.offset, ← sizeOf f.type)).run P w = .ok pl.toArray w) ∧ (∀ w, (zeroValue t).run P w = .ok zv w) ∧ cellsL zv = z

def nthP : List (Nat × Nat) → Nat → Option (Nat × Nat)
  | [], _ => none
  | v :: _, 0 => some v
  | _ :: r, k + 1 => nthP r k
theorem nthP_eq : ∀ (l : List (Nat × Nat)) (k : Nat), nthP l k = l[k]?
  | [], _ => by simp [nthP]
  | v :: _, 0 => by simp [nthP]
  | _ :: r, k + 1 => by simp [nthP, nthP_eq r k]

theorem y_build {t ty : TypeId} {ps : Array (Nat × Operand)} {pl : List (Nat × Nat)} {z c : List Value} {l : List (Nat × Value)}
    (ht : Pl P t pl z) (hp : partsL ρ ps.toList = some l) (hf : fillL (nthP pl) z l = some c) :
    Yl P n ρ F Γ (.build t ps) ty (.agg c.toArray) := fun d pos af g a w ha hw => by
    obtain ⟨fs, zv, h1, h2, h3, h4⟩ := ht
    have hf' := fill_eq hf
    have hpl : (fun k => pl.toArray[k]?) = nthP pl := by funext k; rw [nthP_eq]; simp
    have hps : (ps.map fun x => (x.1, a.eval x.2)).toList = l := by rw [Array.toList_map]; exact partsL_eq ha hp
    simp only [execOp, Instr.build, Sem.run_bind, h3, Result.andThen_ok, underlying, run_program, h1, Sem.run_pure, h2, cellsL_eq, h4]
    rw [hps, hpl, hf']
    rfl

theorem y_buildA {t e ty : TypeId} {ps : Array (Nat × Operand)} {z c : List Value} {l : List (Nat × Value)} {de : TypeDesc} {m sz by' s1 b1 : Nat} {z1 z2 : Value}
    (ht : Ty P t (.array m e) s1 b1 z1) (he : Ty P e de sz by' z2) (hz : cellsL z1 = z) (hp : partsL ρ ps.toList = some l) (hf : fillL (fun i => some (i * sz, sz)) z l = some c) :
    Yl P n ρ F Γ (.build t ps) ty (.agg c.toArray) := fun d pos af g a w ha hw => by
    have hf' := fill_eq hf
    have hps : (ps.map fun x => (x.1, a.eval x.2)).toList = l := by rw [Array.toList_map]; exact partsL_eq ha hp
    have h1 := ht.u
    have h3 := ht.zero w
    have h4 := he.size w
    simp only [execOp, Instr.build, Sem.run_bind, h3, Result.andThen_ok, underlying, run_program, h1, Sem.run_pure, h4, cellsL_eq, hz]
    rw [hps, hf']
    rfl

/-- A slice's literal: a new block. -/
theorem e_bs {d : Nat} {t e ty : TypeId} {k : Nat} {ps : Array (Nat × Operand)} {pos : String} {af : Array Edge} {g : Option (Nat × Bool)} {K : Act → World → Prop} {c : List Value} {l : List (Nat × Value)} {de : TypeDesc} {sz by' s1 b1 : Nat} {z1 z2 : Value} {zl : List Value}
    (ht : Ty P t (.slice e) s1 b1 z1) (he : Ty P e de sz by' z2) (hk : k * sz ≤ 16777216) (hz : (if k * sz = 0 then [] else (List.range (k * sz)).map fun i => (cellsL z2).getD (i % (cellsL z2).length) default) = zl)
    (hp : partsL ρ ps.toList = some l) (hf : fillL (fun i => some (i * sz, sz)) zl l = some c) (hd : Nat.blt d n = true)
    (kk : ∀ b, PW X n ((d, .slice (some ⟨b, 0, none⟩) k k) :: ρ) F ((b, .cells c.toArray e (0, 0)) :: Γ) K) : PW X n ρ F Γ (fun a w => (Oper.mk (some d) (.buildSlice t k ps) ty pos af g).wp P a w K Q) :=
  e_new (S := fun v F' Γ' => ∃ b, v = .slice (some ⟨b, 0, none⟩) k k ∧ F' = F ∧ Γ' = (b, .cells c.toArray e (0, 0)) :: Γ) hd
    (fun a w ha hw => ⟨_, _, _, _, by
      have hps : (ps.map fun x => (x.1, a.eval x.2)).toList = l := by rw [Array.toList_map]; exact partsL_eq ha hp
      have h1 := ht.u
      have h3 := he.zero w
      have h4 := he.size w
      have hk' : ¬ (k * sz > 2 ^ 24) := by omega
      have hf' := fill_eq hf
      by_cases h0 : k * sz = 0
      · rw [if_pos h0] at hz
        subst hz
        have hz' : ∀ z : Array Value, (Array.range (k * sz)).map (z[· % z.size]!) = List.toArray [] := fun z => by rw [h0]; simp [Array.range]
        have hk0 : ¬ (0 > 2 ^ 24) := by omega
        simp only [execOp, Instr.buildSlice, Sem.run_bind, Result.andThen_ok, underlying, run_program, h1, Sem.run_pure, h4, h0, hk0, if_false, if_true, hps, newRow]
        rw [h0] at hz'
        rw [hz', hf']
        rfl
      · rw [if_neg h0] at hz
        have hz' : (Array.range (k * sz)).map (z2.cells[· % z2.cells.size]!) = zl.toArray := by
          rw [← hz]
          apply Array.ext'
          rw [cellsL_eq]
          simp [Array.getElem!_eq_getD, List.getD]
        simp only [execOp, Instr.buildSlice, Sem.run_bind, Result.andThen_ok, underlying, run_program, h1, Sem.run_pure, h4, hk', if_false, h0, h3, hps, newRow]
        rw [hz', hf']
        rfl
      , ⟨_, rfl, rfl, rfl⟩, hw.push _⟩)
    (by rintro _ _ _ ⟨b, rfl, rfl, rfl⟩; exact kk b)

/-- An element of an array's value. -/
theorem y_ixA {t e ty : TypeId} {x y : Operand} {m : Nat} {c : List Value} {i : Int} {k : IntKind} {v : Value} {sz by' sz' by'' : Nat} {z z' : Value} {de : TypeDesc}
    (ht : Ty P t (.array m e) sz' by'' z') (he : Ty P e de sz by' z) (hx : ev ρ x = some (.agg c.toArray)) (hy : ev ρ y = some (.int k i)) (hi : 0 ≤ i ∧ i < m) (hv : ldv (isAggD de) sz c (i.toNat * sz) = some v) :
    Yl P n ρ F Γ (.index t x y) ty (v) := fun d pos af g a w ha hw => by
    have hsz := he.size w
    have hag := he.agg w
    have hpart : (part e c.toArray (i.toNat * sz)).run P w = .ok v w := by
      unfold part
      rw [Sem.run_bind, hag, Result.andThen_ok]
      cases hA : isAggD de with
      | true =>
        rw [hA] at hv
        simp only [ldv] at hv
        split at hv
        · rename_i l hl
          simp at hv
          obtain ⟨g1, g2⟩ := seg_spec hl
          have he : c.toArray.extract (i.toNat * sz) (i.toNat * sz + sz) = l.toArray := by
            apply Array.ext_getElem?
            intro j
            rw [Array.getElem?_extract]
            split
            · rename_i hj
              have : j < l.length := by simp at hj; omega
              simp [g2 j l[j] (by simp [this]), this]
            · rename_i hj
              simp at hj
              simp
              by_cases hjl : j < l.length
              · have := g2 j l[j] (by simp [hjl])
                have := (List.getElem?_eq_some_iff.1 this).1
                omega
              · omega
          simp only [if_true, Sem.run_bind, hsz, Result.andThen_ok, he, Sem.run_pure, hv]
        · simp at hv
      | false =>
        rw [hA] at hv
        simp only [ldv, nth_eq] at hv
        simp [hv]
    simp [execOp, ha.eval hx, ha.eval hy, Instr.index, asIntOf, underlying, ht.u, hi.1, hi.2, hsz, hpart]

end
end Go.SL
