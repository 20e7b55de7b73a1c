/-
  The walks of gate's Less and New.
-/
import Derived.Test.YtgppbdcnpailaaaGMap
namespace Go.Proofs.Ytgppbdcnpailaaa
open Go.RowKit Go.Maps

abbrev u32s (xs : List Int) : List Value := xs.map (Value.int .u32)
def delAll (D : MD) (ns : List Int) : MD := ns.foldl (fun D x => D.del (kx x)) D
theorem delAll_snoc (D : MD) (ns : List Int) (x : Int) : delAll D (ns ++ [x]) = (delAll D ns).del (kx x) := by simp [delAll]
set_option maxRecDepth 100000 in
theorem Less_any (q : Nat) (D : MD) (A : Option Addr) (n c : Nat) (ns : List Int) (w : World) (h : GateAt w q D) (hr : Reads w w.heap.size 1 A n (u32s ns)) (hwf : ∀ x ∈ ns, (Lit.int .u32 x).wf = true) (hn : n ≤ 140737488351232) :
    Calls Try.prog 27 #[.pointer (some ⟨q, 0, none⟩), .slice A n c] w fun e w' => ∃ q', e = .returned (.tuple #[.pointer (some ⟨q', 0, none⟩), .int .i64 0]) ∧ GateAt w' q' (delAll D ns) ∧ Below w.heap.size w w' := by
  obtain ⟨m, k, c1, l1, s1, o1, k64⟩ := h
  have hl : ns.length = n := by simpa using hr.1
  have g1 := gmade_any q m w c1
  have h1 := hide_ (mapsClone_any m k D w o1 s1)
  have HR := hide_ hr
  have HL := hide_ hl
  have HWF := hide_ hwf
  clear hr hl hwf o1
  go_enter Try.func27, Try.ntmps27
  go_wp2_with fail
  refine g1.mono ?_
  rintro e w' ⟨rfl, hw⟩
  subst w'
  go_wp2_with fail
  refine h1.out.mono ?_
  rintro e w1 ⟨rfl, o2, hb1⟩
  clear h1 g1
  go_wp2
  go_loopw [19] (fun i wr => ∃ j : Nat, j ≤ n ∧ i = .int .i64 j ∧ mapAt wr w.heap.size k (delAll D (ns.take j)) ∧ Below w.heap.size w wr ∧ w.heap.size < wr.heap.size) (fun i _ => n - (intOf i).toNat)
  case atStart => exact ⟨0, Nat.zero_le _, rfl, o2, hb1, o2.lt⟩
  case round =>
    clear o2 hb1
    obtain ⟨j, hj, rfl, o3, hb, hsz⟩ := hrel
    by_cases hlt : j < n
    · obtain ⟨ad, u, rfl, hab, hu, hcu⟩ := (HR.out.below hb).at_ hlt
      have hjl : j < ns.length := by rw [HL.out]; exact hlt
      have hue : u = .int .u32 (ns[j]?.getD 0) := by
        rw [List.getElem?_map, List.getElem?_eq_getElem hjl] at hu
        rw [List.getElem?_eq_getElem hjl]
        exact (Option.some.inj hu).symm
      subst hue
      have hwx : (Lit.int .u32 (ns[j]?.getD 0)).wf = true := HWF.out _ (by rw [List.getElem?_eq_getElem hjl]; exact List.getElem_mem hjl)
      have hst : delAll D (ns.take (j + 1)) = (delAll D (ns.take j)).del (kx (ns[j]?.getD 0)) := by
        rw [List.take_add_one, List.getElem?_eq_getElem hjl]
        exact delAll_snoc _ _ _
      obtain ⟨x, hx⟩ : ∃ x, x = ns[j]?.getD 0 := ⟨_, rfl⟩
      rw [← hx] at hcu hwx hst
      have HST := hide_ hst
      have HB := hide_ hb
      have hbk : (ad.add j).block < wr.heap.size := by rw [block_of_add]; have := hb.size; omega
      clear hst hx hb hu hab
      go_wp2_with (first
        | (at_delete; refine wpList_delete_own _ rfl _ _ 101 23 rfl 3 K32 Try.underlying101 _ w.heap.size k _ rfl o3 _ _ rfl (keyOf_int_mk Try.underlying23 hwx) ?_; intro w4 o4 ht4)
        | go_in)
      go_roundw
      case rel =>
        have hg := ht4.grown
        exact ⟨j + 1, by omega, by go_num, by rw [HST.out]; exact o4, HB.out.grown hg HB.out.size (fun i hi => by cases hi; exact Nat.le_refl _), Nat.lt_of_lt_of_le hsz hg.size⟩
      case measure => simp [intOf]; omega
    · obtain rfl : j = n := by omega
      rw [List.take_of_length_le (by rw [HL.out]; omega)] at o3
      have hk := Blk.new wr 103 #[.map (some w.heap.size)]
      have hb2 : Below w.heap.size w (wr.alloc (.cells #[.map (some w.heap.size)] 103)) := hb.alloc hb.size _
      have o5 : mapAt (wr.alloc (.cells #[.map (some w.heap.size)] 103)) w.heap.size k (delAll D ns) := o3.alloc _
      have hk0 := hk.cell 0
      have HEND := hide_ (show GateAt (wr.alloc (.cells #[.map (some w.heap.size)] 103)) wr.heap.size (delAll D ns) from ⟨w.heap.size, k, hk0, hk.lt, by simp; omega, o5, k64⟩)
      have HB2 := hide_ hb2
      clear hk hb2 o5 hk0 o3 hb
      go_wp2
      go_ret2
      exact ⟨_, rfl, HEND.out, HB2.out⟩
end Go.Proofs.Ytgppbdcnpailaaa
