import Derived.Test.YtgefikehhcgdnaaGreatDoorRow
import Derived.Test.YtgefikehhcgdnaaGreatDoorResp
import Derived.Test.YtgefikehhcgdnaaGreatDoorRows
import Derived.ProofKit
import Derived.OpenShut
import Derived.LaidMore
import Derived.Lay
import Derived.SevenTiedAt
import Derived.Stop.Joined
import Derived.Lib.LaidTab
/- What the rows share: arguments read. No condition. -/
namespace Go.Proofs.YtgefikehhcgdnaaGreatDoor
open Go Go.SL Go.ChangeShapes Go.WideShapes Go.ChangeAt Go.RowKit
theorem own : ownKnob Tryz.prog.godebug = none := by kernel_rfl
theorem kidsAll : Kids Tryz.prog (· < Tryz.prog.types.size) := kids_rows (by kernel_rfl) (by kernel_rfl)
theorem fullAll : ∀ t e, t < Tryz.prog.types.size → Tryz.prog.underlying t = some (.slice e) → 0 < Tryz.prog.cellsOf e := slices_full_of _ (by kernel_rfl)

/-- The whole heap, read only. -/
def heapF (W : World) : FH := fun b => W.heap[b]?
theorem heapF_holds (W : World) : Holds ⟨W, [], heapF W⟩ (heapF W) [] W where
  fr := fun _ _ h => h
  own := fun _ h => by cases h
  nd := List.nodup_nil
  dj := fun _ h => by cases h
  rng := fun _ h => by cases h
  size := Nat.le_refl _
  frame := fun _ _ _ => rfl
  up := Le.refl _
  dom := fun _ _ h => .inl h
  tape := rfl
  os := rfl
  out := rfl
theorem heapF_below {W W' : World} {F' : FH} {Γ' : Blks} (h : Holds ⟨W, [], heapF W⟩ F' Γ' W') : Below W.heap.size W W' :=
  ⟨h.os, h.tape, h.out, h.size, fun k hk => h.frame k hk (by simp)⟩

theorem u8_of {n : Int} (h : (Lit.int .u8 n).wf = true) : ((UInt8.ofNat n.toNat).toNat : Int) = n := by
  have : 0 ≤ n ∧ n ≤ 255 := by
    have h' : IntKind.u8.min ≤ n ∧ n ≤ IntKind.u8.max := by simpa [Lit.wf] using h
    exact h'
  simp [UInt8.toNat_ofNat]
  omega
theorem open_bytes {H : Type} {enc : TypeId × Value → H} {W : World} {a0 : Option Addr} {len cap : Nat} {d : DataW H} {p : List MemPlace} (h : DataW.Trod enc Tryz.prog W 0 (fun _ => true) true T22 (.slice a0 len cap) d p) : ∃ body : List UInt8, SlAt (heapF W) encB (.slice a0 len cap) body := by
  obtain ⟨fuel, hf⟩ := h
  rcases open_ints ty22.u ty5.u (by kernel_rfl) hf with ⟨hcs, hx⟩ | ⟨a, len', cap', zs, hcs, _, hl, hm, hz, hx, hcell, hwz⟩
  · simp [Value.cells] at hcs
    obtain ⟨rfl, rfl, rfl⟩ := hcs
    exact ⟨[], SlAt.nil⟩
  · simp [Value.cells] at hcs
    obtain ⟨rfl, rfl, rfl⟩ := hcs
    simp only [if_true] at hz
    by_cases h0 : len = 0
    · subst h0
      exact ⟨[], .inl ⟨rfl, _, _, rfl⟩⟩
    · obtain ⟨b, off, spot⟩ := a
      have hspot : spot = none := by simpa [Addr.add] using World.cell?_spot (hcell 0 (by omega))
      subst hspot
      refine ⟨(zs.take len).map fun z => UInt8.ofNat z.toNat, .inr ⟨b, off, cap, by simp [hz, Nat.min_eq_left hl], by simp [hz, hl], ?_⟩⟩
      have hc : ∃ c u fz, W.heap[b]? = some (.cells c u fz) ∧ ∀ i, i < zs.length → c[off + i]? = some (.int .u8 (zs.getD i 0)) := by
        have h1 := hcell 0 (by omega)
        unfold World.cell? at h1
        cases hb : W.heap[b]? with
        | none => simp [Addr.add, hb] at h1
        | some o =>
          cases o with
          | cells c u fz =>
            refine ⟨c, u, fz, rfl, fun i hi => ?_⟩
            have h2 := hcell i hi
            simpa [World.cell?, add_off, hb] using h2
          | _ => simp [Addr.add, hb] at h1
      obtain ⟨c, u, fz, hb, hci⟩ := hc
      have hlast := hci (len - 1) (by omega)
      have hlt : off + (len - 1) < c.size := by
        rcases Nat.lt_or_ge (off + (len - 1)) c.size with h | h
        · exact h
        · simp [Array.getElem?_eq_none h] at hlast
      refine ⟨c.toList, u, fz, by simpa [heapF] using hb, seg_of (fun j v hj => ?_) (.inl ?_)⟩
      · have hfl : (((zs.take len).map fun z => UInt8.ofNat z.toNat).flatMap encB) = (zs.take len).map fun z => Value.int .u8 z := by
          have hall : ∀ z ∈ zs.take len, (Lit.int .u8 z).wf = true := fun z hz => hwz z (List.mem_of_mem_take hz)
          clear hj hci hlast hcell
          generalize zs.take len = l at hall
          induction l with
          | nil => rfl
          | cons z l ih =>
            simp only [List.map_cons, List.flatMap_cons, List.singleton_append]
            rw [ih (fun x hx => hall x (List.mem_cons_of_mem _ hx)), u8_of (hall z (List.mem_cons_self))]
        rw [hfl, List.getElem?_map] at hj
        have hj' : j < len := by
          rcases Nat.lt_or_ge j (zs.take len).length with h | h
          · simp at h; omega
          · simp [List.getElem?_eq_none h] at hj
        rw [List.getElem?_take_of_lt hj'] at hj
        have := hci j (by omega)
        rw [List.getElem?_eq_getElem (by omega : j < zs.length)] at hj
        simp only [Option.map_some, Option.some.injEq] at hj
        rw [List.getD, List.getElem?_eq_getElem (by omega : j < zs.length), Option.getD_some, hj] at this
        simpa using this
      · rw [flatMap_len (sz := 1) (fun _ => rfl), List.length_map, List.length_take]
        have hcs : c.toList.length = c.size := Array.length_toList
        omega


end Go.Proofs.YtgefikehhcgdnaaGreatDoor

