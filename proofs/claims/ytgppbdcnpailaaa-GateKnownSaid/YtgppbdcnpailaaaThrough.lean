/-
  The walk of the statement GateThrough.
-/
import Derived.Test.YtgppbdcnpailaaaGSome
namespace Go.Proofs.Ytgppbdcnpailaaa
open Go.RowKit Go.Maps

theorem del_inn (D : MD) (n x : Int) (h : Maps.has (D.del (kx n)) (kx x) = true) : Maps.has D (kx x) = true ∧ (D.del (kx n)).atKey (kx x) z0 = D.atKey (kx x) z0 ∧ x ≠ n := by
  by_cases e : x = n
  · subst e
    rw [Maps.has_del_same] at h
    cases h
  · have hk : kx x ≠ kx n := fun h => e (kx_inj h)
    rw [Maps.has_del_other hk] at h
    exact ⟨h, Maps.atKey_del_other hk _, e⟩
theorem delAll_inn : ∀ (ns : List Int) (D : MD) (x : Int), Maps.has (delAll D ns) (kx x) = true → Maps.has D (kx x) = true ∧ (delAll D ns).atKey (kx x) z0 = D.atKey (kx x) z0 ∧ x ∉ ns
  | [], D, x, h => ⟨h, rfl, by simp⟩
  | n :: r, D, x, h => by
    obtain ⟨h1, h2, h3⟩ := delAll_inn r (D.del (kx n)) x h
    obtain ⟨h4, h5, h6⟩ := del_inn D n x h1
    exact ⟨h4, h2.trans h5, by simp [h6, h3]⟩
theorem delAll_has : ∀ (ns : List Int) (D : MD) (x : Int), Maps.has D (kx x) = true → x ∉ ns → Maps.has (delAll D ns) (kx x) = true
  | [], D, x, h, _ => h
  | n :: r, D, x, h, hx => by
    simp only [List.mem_cons, not_or] at hx
    exact delAll_has r (D.del (kx n)) x (by rw [Maps.has_del_other (fun e => hx.1 (kx_inj e))]; exact h) hx.2
theorem WithinP.refl (D : MD) : WithinP D D := fun _ _ h => ⟨h, rfl⟩
theorem WithinP.less (D : MD) (ns : List Int) : WithinP (delAll D ns) D := fun x _ h => ⟨(delAll_inn ns D x h).1, (delAll_inn ns D x h).2.1⟩
theorem WithinP.trans {D1 D2 D3 : MD} (h1 : WithinP D1 D2) (h2 : WithinP D2 D3) : WithinP D1 D3 := fun x hx h => by
  obtain ⟨a, b⟩ := h1 x hx h
  obtain ⟨c, d⟩ := h2 x hx a
  exact ⟨c, b.trans d⟩
set_option maxRecDepth 100000 in
set_option maxHeartbeats 1000000 in
theorem GateThrough_walk (A : Option Addr) (n c : Nat) (ns : List Int) (A1 : Option Addr) (n1 c1 : Nat) (os : List Int) (A2 : Option Addr) (n2 c2 : Nat) (ts : List Int) (w : World)
    (hr : Reads w w.heap.size 1 A n (u32s ns)) (hwf : ∀ x ∈ ns, (Lit.int .u32 x).wf = true) (_hnc : n ≤ c) (_hcb : c * 4 ≤ 140737488351232) (hr1 : Reads w w.heap.size 1 A1 n1 (u32s os)) (hwf1 : ∀ x ∈ os, (Lit.int .u32 x).wf = true) (_hnc1 : n1 ≤ c1) (_hcb1 : c1 * 4 ≤ 140737488351232)
    (hr2 : Reads w w.heap.size 1 A2 n2 (u32s ts)) (hwf2 : ∀ x ∈ ts, (Lit.int .u32 x).wf = true) (_hnc2 : n2 ≤ c2) (_hcb2 : c2 * 4 ≤ 140737488351232) :
    Calls Try.prog 7 #[.slice A n c, .slice A1 n1 c1, .slice A2 n2 c2] w fun e w' => e = .returned (.bool true) ∧ Below w.heap.size w w' := by
  have h1 := hide_ (some_any A n c ns w hr hwf (by omega))
  have HR1 := hide_ hr1
  have HR2 := hide_ hr2
  have HW1 := hide_ hwf1
  have HW2 := hide_ hwf2
  have hn1 : n1 ≤ 140737488351232 := by omega
  have hn2 : n2 ≤ 140737488351232 := by omega
  clear hr hwf hr1 hwf1 hr2 hwf2 _hnc _hcb _hnc1 _hcb1 _hnc2 _hcb2
  go_enter Try.func7, Try.ntmps7
  go_wp2_with fail
  refine h1.out.mono ?_
  rintro e w1 ⟨q, l, Al, cl, rfl, _, hg1, _, _, hb1⟩
  obtain ⟨D, hD⟩ : ∃ D, D = putAll (.map []) l := ⟨_, rfl⟩
  rw [← hD] at hg1
  clear hD h1
  have h2 := hide_ (Less_any q D A1 n1 c1 os w1 hg1 ((HR1.out.below hb1).more hb1.size) HW1.out hn1)
  have HG1 := hide_ hg1
  have HB1 := hide_ hb1
  clear hg1 hb1
  go_wp2_with fail
  refine h2.out.mono ?_
  rintro e w2 ⟨q2, rfl, hg2, hb2⟩
  have hB2 := HB1.out.trans (hb2.mono HB1.out.size)
  have hc2 := HG1.out.below hb2
  have h3 := hide_ (Less_any q2 (delAll D os) A2 n2 c2 ts w2 hg2 ((HR2.out.below hB2).more hB2.size) HW2.out hn2)
  have HG2 := hide_ hg2
  have HC2 := hide_ hc2
  have HB2 := hide_ hB2
  clear hg2 hb2 hB2 hc2 h2 HG1 HB1
  go_wp2_with fail
  refine h3.out.mono ?_
  rintro e w3 ⟨q3, rfl, hg3, hb3⟩
  have hB3 := HB2.out.trans (hb3.mono HB2.out.size)
  have hc3 := HC2.out.below hb3
  have hb3' := HG2.out.below hb3
  have HS : Hid (∀ w', GateAt w3 q D → Below w3.heap.size w3 w' → GateAt w' q D ∧ GateAt w' q2 (delAll D os) ∧ GateAt w' q3 (delAll (delAll D os) ts) ∧ Below w.heap.size w w') := hide_ fun w' hc hb => ⟨hc.below hb, hb3'.below hb, hg3.below hb, hB3.trans (hb.mono hB3.size)⟩
  have HC3 := hide_ hc3
  have hsz : w.heap.size ≤ w3.heap.size := hB3.size
  clear hg3 hb3 hB3 hb3' h3 HG2 HC2 HB2 hc3
  obtain ⟨Da, hDa⟩ : ∃ Da, Da = delAll (delAll D os) ts := ⟨_, rfl⟩
  obtain ⟨Db, hDb⟩ : ∃ Db, Db = delAll D os := ⟨_, rfl⟩
  rw [← hDa, ← hDb] at HS
  have wab : WithinP Da Db := by rw [hDa, hDb]; exact WithinP.less _ _
  have wbc : WithinP Db D := by rw [hDb]; exact WithinP.less _ _
  have WAB := hide_ wab
  have WBC := hide_ wbc
  clear hDa hDb wab wbc
  obtain ⟨gc, gb, ga, _⟩ := HS.out w3 HC3.out (Below.refl _ _)
  have h4 := hide_ (Within_any q3 q2 Da Db w3 ga gb)
  clear gc gb ga
  go_wp2_with fail
  refine h4.out.mono ?_
  rintro e w4 ⟨b4, rfl, hb4, hB4⟩
  obtain rfl : b4 = true := hb4.2 WAB.out
  obtain ⟨gc, gb, ga, _⟩ := HS.out w4 HC3.out hB4
  have h5 := hide_ (Within_any q2 q Db D w4 gb gc)
  have HB4 := hide_ hB4
  clear gc gb ga hB4 hb4
  go_wp2_with fail
  refine h5.out.mono ?_
  rintro e w5 ⟨b5, rfl, hb5, hB5⟩
  obtain rfl : b5 = true := hb5.2 WBC.out
  have hB5' := HB4.out.trans (hB5.mono HB4.out.size)
  obtain ⟨gc, gb, ga, _⟩ := HS.out w5 HC3.out hB5'
  have h6 := hide_ (Within_any q3 q Da D w5 ga gc)
  have HB5 := hide_ hB5'
  clear gc gb ga hB5 hB5' hb5 HB4
  go_wp2_with fail
  refine h6.out.mono ?_
  rintro e w6 ⟨b6, rfl, hb6, hB6⟩
  obtain rfl : b6 = true := hb6.2 (WAB.out.trans WBC.out)
  have hB6' := HB5.out.trans (hB6.mono HB5.out.size)
  obtain ⟨gc, gb, ga, _⟩ := HS.out w6 HC3.out hB6'
  have h7 := hide_ (Within_any q q3 D Da w6 gc ga)
  have HB6 := hide_ hB6'
  clear gc gb ga hB6 hB6' hb6 HB5
  go_wp2_with fail
  refine h7.out.mono ?_
  rintro e w7 ⟨b7, rfl, hb7, hB7⟩
  have hB7' := HB6.out.trans (hB7.mono HB6.out.size)
  obtain ⟨gc, gb, ga, _⟩ := HS.out w7 HC3.out hB7'
  have h8 := hide_ (Within_any q q2 D Db w7 gc gb)
  have h9' := hide_ (Within_any q3 q3 Da Da w7 ga ga)
  have HB7 := hide_ hB7'
  have HW7 := hide_ hb7
  clear gc gb ga hB7 hB7' hb7 HB6
  cases b7 with
  | false =>
    go_wp2_with fail
    refine h9'.out.mono ?_
    rintro e w8 ⟨b8, rfl, hb8, hB8⟩
    obtain rfl : b8 = true := hb8.2 (WithinP.refl _)
    obtain ⟨_, _, _, hE⟩ := HS.out w8 HC3.out (HB7.out.trans (hB8.mono HB7.out.size))
    go_wp2
    go_ret
    exact ⟨rfl, hE⟩
  | true =>
    have wca : WithinP D Da := HW7.out.1 rfl
    go_wp2_with fail
    refine h8.out.mono ?_
    rintro e w8 ⟨b8, rfl, hb8, hB8⟩
    obtain rfl : b8 = true := hb8.2 (wca.trans WAB.out)
    have hB8' := HB7.out.trans (hB8.mono HB7.out.size)
    obtain ⟨gc, gb, ga, _⟩ := HS.out w8 HC3.out hB8'
    have h9 := hide_ (Within_any q2 q3 Db Da w8 gb ga)
    have HB8 := hide_ hB8'
    clear gc gb ga hB8 hB8' hb8 HB7
    go_wp2_with fail
    refine h9.out.mono ?_
    rintro e w9 ⟨b9, rfl, hb9, hB9⟩
    obtain rfl : b9 = true := hb9.2 (WBC.out.trans wca)
    have hB9' := HB8.out.trans (hB9.mono HB8.out.size)
    obtain ⟨gc, gb, ga, _⟩ := HS.out w9 HC3.out hB9'
    have h10 := hide_ (Within_any q3 q3 Da Da w9 ga ga)
    have HB9 := hide_ hB9'
    clear gc gb ga hB9 hB9' hb9 HB8
    go_wp2_with fail
    refine h10.out.mono ?_
    rintro e w10 ⟨b10, rfl, hb10, hB10⟩
    obtain rfl : b10 = true := hb10.2 (WithinP.refl _)
    obtain ⟨_, _, _, hE⟩ := HS.out w10 HC3.out (HB9.out.trans (hB10.mono HB9.out.size))
    go_wp2
    go_ret
    exact ⟨rfl, hE⟩
end Go.Proofs.Ytgppbdcnpailaaa
