import Derived.Test.YtgefikehhcgdnaaGreatDoorCuts
import Derived.Test.YtgefikehhcgdnaaGreatDoorRow
import Derived.Test.YtgefikehhcgdnaaGreatDoorCards
import Derived.Test.YtgefikehhcgdnaaGreatDoorTie
import Derived.ProofKit
import Derived.OpenShut
import Derived.LaidMore
import Derived.Lay
import Derived.SevenTiedAt
import Derived.Stop.Joined
import Derived.Lib.LaidTab
/- The law OriginCuts holds for every input: the row and its tied card. No condition. -/
namespace Go.Proofs.YtgefikehhcgdnaaGreatDoor
open Go Go.SL Go.ChangeShapes Go.WideShapes Go.ChangeAt Go.RowKit

theorem own : ownKnob Tryz.prog.godebug = none := by kernel_rfl
theorem kidsAll : Kids Tryz.prog (· < Tryz.prog.types.size) := kids_rows (by kernel_rfl) (by kernel_rfl)
theorem fullAll : ∀ t e, t < Tryz.prog.types.size → Tryz.prog.underlying t = some (.slice e) → 0 < Tryz.prog.cellsOf e := slices_full_of _ (by kernel_rfl)

/-- The whole heap, read only. -/
def heapF (W : World) : FH := fun b => W.heap[b]?
theorem heapF_holds (W : World) : Holds ⟨W, [], heapF W⟩ (heapF W) [] W where
  fr := fun _ _ h => h
  own := fun _ h => by cases h
  nd := List.nodup_nil
  dj := fun _ h => by cases h
  rng := fun _ h => by cases h
  size := Nat.le_refl _
  frame := fun _ _ _ => rfl
  up := Le.refl _
  dom := fun _ _ h => .inl h
  tape := rfl
  os := rfl
  out := rfl
theorem heapF_below {W W' : World} {F' : FH} {Γ' : Blks} (h : Holds ⟨W, [], heapF W⟩ F' Γ' W') : Below W.heap.size W W' :=
  ⟨h.os, h.tape, h.out, h.size, fun k hk => h.frame k hk (by simp)⟩

theorem glob_of {W : World} (h : laidMetH Tryz.prog Rows.originCutsRow.laid W) : Glob (heapF W) := by
  rw [MakeChecks.laidMetH_plain _ _ _ (by kernel_rfl)] at h
  obtain ⟨ps, ⟨g0, t0, cs0, f0, p0, q0, hg0, ht0, hv0, hd0, ⟨g1, t1, cs1, f1, p1, q1, hg1, ht1, hv1, hd1, ⟨g2, t2, cs2, f2, p2, q2, hg2, ht2, hv2, hd2, _, _⟩, _⟩, _⟩, _, _⟩ := h
  obtain rfl := Option.some.inj ((show Tryz.prog.globalNamed "internal/strconv.uint64pow10" = some 1 by kernel_rfl).symm.trans hg2)
  obtain rfl := Option.some.inj ((show (Tryz.prog.globals[1]?).map (·.type) = some 288 by kernel_rfl).symm.trans ht2)
  have hc := Lib.cells_of_tab (zs := Lib.pow10Tab) (k := .u64) ty288.u ty272.u (by kernel_rfl) (by kernel_rfl) hd2
  unfold World.var? at hv2
  rw [hg2] at hv2
  simp only [Option.bind_some] at hv2
  cases hb : W.heap[1]? with
  | none => simp [hb] at hv2
  | some o =>
    cases o with
    | cells c u fz =>
      simp [hb] at hv2
      refine ⟨u, fz, ?_⟩
      show W.heap[1]? = _
      rw [hb]
      congr 2
      apply Array.toList_inj.1
      rw [hv2, hc]
    | _ => simp [hb] at hv2

theorem u8_of {n : Int} (h : (Lit.int .u8 n).wf = true) : ((UInt8.ofNat n.toNat).toNat : Int) = n := by
  have : 0 ≤ n ∧ n ≤ 255 := by
    have h' : IntKind.u8.min ≤ n ∧ n ≤ IntKind.u8.max := by simpa [Lit.wf] using h
    exact h'
  simp [UInt8.toNat_ofNat]
  omega
theorem open_bytes {H : Type} {enc : TypeId × Value → H} {W : World} {a0 : Option Addr} {len cap : Nat} {d : DataW H} {p : List MemPlace} (h : DataW.Trod enc Tryz.prog W 0 (fun _ => true) true T22 (.slice a0 len cap) d p) : ∃ body : List UInt8, SlAt (heapF W) encB (.slice a0 len cap) body := by
  obtain ⟨fuel, hf⟩ := h
  rcases open_ints ty22.u ty5.u (by kernel_rfl) hf with ⟨hcs, hx⟩ | ⟨a, len', cap', zs, hcs, _, hl, hm, hz, hx, hcell, hwz⟩
  · simp [Value.cells] at hcs
    obtain ⟨rfl, rfl, rfl⟩ := hcs
    exact ⟨[], SlAt.nil⟩
  · simp [Value.cells] at hcs
    obtain ⟨rfl, rfl, rfl⟩ := hcs
    simp only [if_true] at hz
    by_cases h0 : len = 0
    · subst h0
      exact ⟨[], .inl ⟨rfl, _, _, rfl⟩⟩
    · obtain ⟨b, off, spot⟩ := a
      have hspot : spot = none := by simpa [Addr.add] using World.cell?_spot (hcell 0 (by omega))
      subst hspot
      refine ⟨(zs.take len).map fun z => UInt8.ofNat z.toNat, .inr ⟨b, off, cap, by simp [hz, Nat.min_eq_left hl], by simp [hz, hl], ?_⟩⟩
      have hc : ∃ c u fz, W.heap[b]? = some (.cells c u fz) ∧ ∀ i, i < zs.length → c[off + i]? = some (.int .u8 (zs.getD i 0)) := by
        have h1 := hcell 0 (by omega)
        unfold World.cell? at h1
        cases hb : W.heap[b]? with
        | none => simp [Addr.add, hb] at h1
        | some o =>
          cases o with
          | cells c u fz =>
            refine ⟨c, u, fz, rfl, fun i hi => ?_⟩
            have h2 := hcell i hi
            simpa [World.cell?, add_off, hb] using h2
          | _ => simp [Addr.add, hb] at h1
      obtain ⟨c, u, fz, hb, hci⟩ := hc
      have hlast := hci (len - 1) (by omega)
      have hlt : off + (len - 1) < c.size := by
        rcases Nat.lt_or_ge (off + (len - 1)) c.size with h | h
        · exact h
        · simp [Array.getElem?_eq_none h] at hlast
      refine ⟨c.toList, u, fz, by simpa [heapF] using hb, seg_of (fun j v hj => ?_) (.inl ?_)⟩
      · have hfl : (((zs.take len).map fun z => UInt8.ofNat z.toNat).flatMap encB) = (zs.take len).map fun z => Value.int .u8 z := by
          have hall : ∀ z ∈ zs.take len, (Lit.int .u8 z).wf = true := fun z hz => hwz z (List.mem_of_mem_take hz)
          clear hj hci hlast hcell
          generalize zs.take len = l at hall
          induction l with
          | nil => rfl
          | cons z l ih =>
            simp only [List.map_cons, List.flatMap_cons, List.singleton_append]
            rw [ih (fun x hx => hall x (List.mem_cons_of_mem _ hx)), u8_of (hall z (List.mem_cons_self))]
        rw [hfl, List.getElem?_map] at hj
        have hj' : j < len := by
          rcases Nat.lt_or_ge j (zs.take len).length with h | h
          · simp at h; omega
          · simp [List.getElem?_eq_none h] at hj
        rw [List.getElem?_take_of_lt hj'] at hj
        have := hci j (by omega)
        rw [List.getElem?_eq_getElem (by omega : j < zs.length)] at hj
        simp only [Option.map_some, Option.some.injEq] at hj
        rw [List.getD, List.getElem?_eq_getElem (by omega : j < zs.length), Option.getD_some, hj] at this
        simpa using this
      · rw [flatMap_len (sz := 1) (fun _ => rfl), List.length_map, List.length_take]
        have hcs : c.toList.length = c.size := Array.length_toList
        omega

set_option maxRecDepth 100000 in
theorem lifted (os : Os) (started : os.Started) (H : Type) (enc : TypeId × Value → H) :
    ReturnsInHanded {} Tryz.checked os 3 .any (fun w args => (Rows.originCutsSpec.pre enc Tryz.prog Tryz.f3 [] false w args ∧ laidMetH Tryz.prog Rows.originCutsRow.laid w) ∧ sizedMet enc Tryz.prog Tryz.f3 (OpenSpec.ofChange Rows.originCutsSpec) false w args)
      (Rows.originCutsSpec.post enc Tryz.prog Tryz.f3 false true false false) := by
  refine returnsInHanded_of_change_and (C := Tryz.checked) (X := fun w _ => laidMetH Tryz.prog Rows.originCutsRow.laid w) (fun _ _ _ hh h => h.of_heap hh) own started (by kernel_rfl) Tryz.func3
    (ChangeSpec.witness_shaped (enc := enc) (C := Tryz.checked) (os := os) (X := fun w _ => laidMetH Tryz.prog Rows.originCutsRow.laid w) false (World.laidAll Tryz.prog os Rows.originCutsRow.laid) #[.slice none 0 0, .int .i64 0] 8 (World.laidAll_os _ _ _)
      (World.shaped_of_ZipB (by kernel_rfl) (by kernel_rfl)) (by kernel_rfl) (by kernel_rfl) (by kernel_rfl)
      (by rw [MakeChecks.laidMetH_plain _ _ _ (by kernel_rfl)]; exact laidMet_laidAll _ (by kernel_rfl) (by kernel_rfl))) ?_
  intro W base args ds gs before hval0 hW hc _ hL _
  have hval : ∀ (j : Nat) t v, Tryz.f3.params[j]? = some t → args[j]? = some v → Value.okWide Tryz.prog W .any base t v := hval0
  have hW' := hW
  obtain ⟨p, q, hA0, hV, rfl, _, _⟩ := hW
  have hA : DataW.TrodAll enc Tryz.prog W 0 (fun _ => true) true [T22, T3] args.toList ds p := hA0
  obtain ⟨v0, v1, d0, d1, p0, p1, rfl, rfl, rfl, h0, h1⟩ := trodAll_two hA
  obtain ⟨rfl, rfl⟩ := trodVars_none hV
  obtain ⟨t, rfl, rfl, rfl, wt⟩ := open_int ty3.u (hval 1 T3 v1 rfl rfl) h1
  obtain ⟨a0, len, cap, rfl⟩ := okWide_slice ty22.u (hval 0 T22 v0 rfl rfl)
  obtain ⟨body, hbody⟩ := open_bytes h0
  have hcon := c_OriginCuts (heapF W) (glob_of hL) _ body t hbody
  refine (hcon.2 W (heapF_holds W)).mono fun e W' ⟨v, F', Γ', he, hv, hh⟩ => ?_
  subst he hv
  exact ⟨_, rfl, post_kept (T := (· < Tryz.prog.types.size)) (t := 4) kidsAll fullAll (by decide) hW' rfl rfl ty4.u rfl (heapF_below hh)⟩

theorem originCuts_holds : Rows.OriginCutsSaid :=
  OpenClaim.holds_of_wide 3 Tryz.f3 rfl rfl rfl rfl rfl rfl rfl ⟨rfl, rfl, rfl, rfl, rfl⟩ rfl rfl rfl rfl rfl (by kernel_rfl) Tryz.func3 (by kernel_rfl)
    (of_decide_eq_true (by kernel_rfl)) (by unfold Func.isWrapper; first | (rw [if_pos (by decide +kernel)]; kernel_rfl) | (rw [if_neg (by decide +kernel)]; exact ⟨rfl, rfl⟩))
    (fun os started H enc _ => lifted os started H enc)
theorem originCuts_card : Rows.OriginCutsCardSaid :=
  Claim7.holds_tied_plain_at .later [] [.data, .data, .data, .data, .pinned] true (true, "c6ee50345aa8a21c7803cf005a10e9be0a4adda9f558b88cac91f457e4ab29c2") true originCuts_holds (fun _ h => by cases h) (by kernel_rfl) (fun _ h => by cases h) originCuts_row_tie rfl ⟨rfl, rfl⟩ (by kernel_rfl) rfl
    (fun f fn hf hfn => by
      obtain rfl : f = 3 := Option.some.inj ((show Tryz.prog.funcNamed "gatepost/gatepostlaw24.OriginCuts" = some 3 by kernel_rfl).symm.trans hf) |>.symm
      obtain rfl : fn = Tryz.f3 := (Option.some.inj (Tryz.func3.symm.trans hfn)).symm
      exact ⟨by kernel_rfl, fun j t ht => by
        have hm : t ∈ [T22, T3] := by
          have ht' : (#[T22, T3] : Array TypeId)[j]? = some t := ht
          simpa using Array.mem_of_getElem? ht'
        have hall : ([T22, T3].all fun u => !Tryz.prog.wantsStandIn u) = true := by kernel_rfl
        exact (show Tryz.prog.wantsStandIn t = false by simpa using List.all_eq_true.1 hall t hm)⟩)
    (by kernel_rfl)
end Go.Proofs.YtgefikehhcgdnaaGreatDoor

