/-
  The walks of the document's segment: put, Copied, Load, Store.
-/
import Derived.Deep.RegionHeld3
import Derived.Test.YtgppbdcnpailaaaRef
namespace Go.Proofs.Ytgppbdcnpailaaa
open Go.RowKit
set_option linter.unusedVariables false

section
variable {W : World} {B r b N c : Nat} {on : Bool} {lv : Value} {ts : List (Int × Bool)} {xs : List Int} {ex : List Ro}
set_option maxRecDepth 100000 in
set_option maxHeartbeats 1000000 in
theorem rput_any (a : Int) (A : Option Addr) (n cb : Nat) (bs : List Int) (hO : Owns W B (refRows r b N c on lv ts xs ++ ex)) (hB : B ≤ W.heap.size) (hN : IsPow N) (hx : xs.length = N) (h0 : 0 ≤ a) (h1 : a ≤ 4294967295) (hbl : bs.length = n) (hn : n ≤ 4096)
    (hR : ∀ W1 lv ts xs, Owns W1 B (refRows r b N c on lv ts xs ++ ex) → Below B W W1 → Reads W1 W1.heap.size 1 A n (u8s bs)) :
    Calls Try.prog 90 #[.pointer (some ⟨r, 0, none⟩), .int .u32 a, .slice A n cb] W fun e W' => e = .returned (.tuple #[]) ∧ RefS W' B r b N c on (notes N on true a ts n) (puts N a bs xs n) ex ∧ Below B W W' := by
  have HO := hide_ hO
  have HN := hide_ hN
  have HX := hide_ hx
  have HR := hide_ hR
  have HBL := hide_ hbl
  clear hO hN hx hR hbl
  go_enter Try.func90, Try.ntmps90
  go_wp2
  go_loopw [6] (fun i wr => ∃ (k : Nat) (lv' : Value), k ≤ n ∧ i = .int .i64 k ∧ Owns wr B (refRows r b N c on lv' (notes N on true a ts k) (puts N a bs xs k) ++ ex) ∧ Below B W wr) (fun i _ => n - (intOf i).toNat)
  case atStart => exact ⟨0, lv, Nat.zero_le _, rfl, HO.out, Below.refl _ _⟩
  case round =>
    clear HO
    obtain ⟨k, lv', hk, rfl, hO, hb⟩ := hrel
    by_cases hlt : k < n
    · have c0 : wr.cell? ⟨r, 0, none⟩ = some (.slice (some ⟨b, 0, none⟩) N c) := hO.cell (i := 0) rfl rfl
      have hpl := hide_ (rplace_any r b N c k a wr c0 HN.out h0 h1 (by omega))
      obtain ⟨p0, p1⟩ := plc_bd HN.out a k
      have hN2 := HN.out.bd
      obtain ⟨P, hP⟩ : ∃ P : Nat, plc N a k = (P : Int) := Int.eq_ofNat_of_zero_le p0
      have hPN : P < N := by omega
      have hns : notes N on true a ts (k + 1) = noted on true (notes N on true a ts k) (P : Int) := by rw [notes, hP]
      have hps : puts N a bs xs (k + 1) = (puts N a bs xs k).set P (bs[k]?.getD 0) := by rw [puts, hP, Int.toNat_natCast]
      rw [hP] at hpl
      have hpk : (puts N a bs xs k).length = N := by rw [puts_len, HX.out]
      have c1 : wr.cell? ⟨b, P, none⟩ = some (.int .u8 ((puts N a bs xs k)[P]?.getD 0)) := hO.cell (i := 1) rfl (u8s_get (by rw [hpk]; exact hPN))
      have cb1 : b < wr.heap.size := (hO.base (i := 1) rfl).2
      have f1 := hO.frozen (i := 1) rfl P
      have hkl : k < bs.length := by rw [HBL.out]; exact hlt
      obtain ⟨ad, u, rfl, hab, hu, hcu⟩ := (HR.out wr _ _ _ hO hb).at_ hlt
      rw [u8s_get hkl] at hu
      injection hu with hu
      subst hu
      obtain ⟨y, hy⟩ : ∃ y, y = bs[k]?.getD 0 := ⟨_, rfl⟩
      rw [← hy] at hcu hps
      have hst := hO.store (i := 1) (e := 5) (size := 1) (n := N) (g := b) (c := c) (j := P) (xs := u8s (puts N a bs xs k)) rfl (by simp [hpk]; exact hPN) (.int .u8 y)
      rw [show (u8s (puts N a bs xs k)).set P (.int .u8 y) = u8s ((puts N a bs xs k).set P y) from (List.map_set).symm, ← hps] at hst
      have hbst := hb.setCell (p := ⟨b, P, none⟩) (hO.base (i := 1) rfl).1 (.int .u8 y)
      have hO2 : Owns (wr.setCell ⟨b, P, none⟩ (.int .u8 y)).drew B (refRows r b N c on lv' (notes N on true a ts k) (puts N a bs xs (k + 1)) ++ ex) := hst.drew
      have hb2 : Below B W (wr.setCell ⟨b, P, none⟩ (.int .u8 y)).drew := hbst.drew
      have hno := hide_ (rnote_any (P : Int) true hO2 (Nat.le_trans hB hb2.size) (by omega) (by omega))
      obtain ⟨_, _, had, _, hu2, hcu2⟩ := (HR.out _ _ _ _ hO2 hb2).at_ hlt
      injection had with had
      subst had
      rw [u8s_get hkl] at hu2
      injection hu2 with hu2
      subst hu2
      rw [← hy] at hcu2
      have HK : Hid (∀ W', W' = (wr.setCell ⟨b, P, none⟩ (.int .u8 y)).drew → W'.cell? ⟨r, 0, none⟩ = some (.slice (some ⟨b, 0, none⟩) N c) ∧ W'.cell? (ad.add k) = some (.int .u8 y)) := hide_ (by
        rintro W' rfl
        exact ⟨hO2.cell (i := 0) rfl rfl, hcu2⟩)
      have HNS := hide_ hns
      have HB2 := hide_ hb2
      have i1 : (0 : Int) ≤ (P : Int) := by omega
      have i2 : (P : Int) < (N : Int) := by omega
      have i3 : (0 : Int) ≤ (k : Int) := by omega
      have i4 : (k : Int) < (n : Int) := by omega
      clear hO hb hns hps hy hP p0 p1 hst hbst hO2 hb2 hcu2 hpk hkl
      go_wp2_with fail
      refine hpl.out.mono ?_
      rintro e w' ⟨rfl, hw⟩
      subst w'
      go_wp2
      go_region_held3 (fun W' => W'.cell? ⟨r, 0, none⟩ = some (.slice (some ⟨b, 0, none⟩) N c) ∧ W'.cell? (ad.add k) = some (.int .u8 y))
        (first | exact ⟨c0, hcu⟩ | exact HK.out _ rfl) (fail)
      go_wp2_with fail
      refine hno.out.mono ?_
      rintro e w3 ⟨rfl, ⟨lv3, hO3⟩, hb3⟩
      have HO3 := hide_ hO3
      have HB3 := hide_ (HB2.out.trans hb3)
      clear hO3 hb3 hno
      go_wp2
      go_roundw
      case rel => exact ⟨k + 1, lv3, by omega, by go_num, by rw [HNS.out]; exact HO3.out, HB3.out⟩
      case measure => simp [intOf]; omega
    · obtain rfl : k = n := by omega
      have HO := hide_ hO
      have HB := hide_ hb
      clear hO hb
      go_wp2
      go_end0
      exact ⟨rfl, ⟨lv', HO.out⟩, HB.out⟩
end
set_option maxRecDepth 100000 in
theorem Copied_any (A : Option Addr) (n c : Nat) (zs : List Int) (W : World) (hr : Reads W W.heap.size 1 A n (u8s zs)) (hn : n ≤ 140737488351232) :
    Calls Try.prog 128 #[.slice A n c] W fun e W' => ∃ A' c', e = .returned (.slice A' n c') ∧ W'.ownsRow W.heap.size 5 1 (.slice A' n c') n (u8s zs) ∧ Below W.heap.size W W' := by
  obtain ⟨i0, hi0, hz0, hz1, hz2⟩ := info_parts Try.info_u8
  have hl : zs.length = n := by simpa using hr.1
  have HR := hide_ hr
  have HL := hide_ hl
  clear hr hl
  go_enter Try.func128, Try.ntmps128
  go_wp2
  go_loopw [3, 4] (fun v i wr => ∃ (k : Nat) (A' : Option Addr) (cc : Nat), k ≤ n ∧ i = .int .i64 k ∧ v = .slice A' k cc ∧ wr.ownsRow W.heap.size 5 1 (.slice A' k cc) k (u8s (zs.take k)) ∧ Below W.heap.size W wr) (fun _ i _ => n - (intOf i).toNat)
  case atStart => exact ⟨0, none, 0, Nat.zero_le _, rfl, rfl, World.ownsRow_nil _ _ _ _, Below.refl _ _⟩
  case round =>
    obtain ⟨k, A', cc, hk, rfl, rfl, hown, hb⟩ := hrel
    by_cases hlt : k < n
    · have hkl : k < zs.length := by rw [HL.out]; exact hlt
      obtain ⟨ad, u, rfl, hab, hu, hcu⟩ := (HR.out.below hb).at_ hlt
      rw [u8s_get hkl] at hu
      injection hu with hu
      subst hu
      have hst : u8s (zs.take (k + 1)) = u8s (zs.take k) ++ [.int .u8 (zs[k]?.getD 0)] := by rw [take_snoc zs 0 k hkl, u8s_snoc]
      obtain ⟨y, hy⟩ : ∃ y, y = zs[k]?.getD 0 := ⟨_, rfl⟩
      rw [← hy] at hcu hst
      obtain ⟨zk, hzk⟩ : ∃ zk, zk = zs.take k := ⟨_, rfl⟩
      rw [← hzk] at hown hst
      have hO0 : Owns wr W.heap.size [⟨5, 1, .slice A' k cc, k, u8s zk⟩] := ⟨fun r hr => by rw [List.mem_singleton.1 hr]; exact hown, List.pairwise_singleton _ _⟩
      have HO := hide_ hO0
      have HST := hide_ hst
      have HB := hide_ hb
      have hsz := hb.size
      have hbk : (ad.add k).block < wr.heap.size := by rw [block_of_add]; omega
      clear hO0 hst hb hown hy hab hkl hzk
      go_wp2_with (at_builtin; refine wpList_append_owns _ rfl (.tmp 11) (.tmp 16) 46 rfl W.heap.size _ 0 5 1 (.slice A' k cc) k (u8s zk) rfl (HO.out.alloc _) (by simp; omega) i0 _ 1 Try.underlying46 hi0 hz0 hz1 hz2 rfl (by omega) rfl _ _ 1 1 [.int .u8 y] rfl (reads_new wr 5 1 1 [.int .u8 y] rfl) (by simp [Value.oneCell']) (by simp only [maxLen]; omega) (by omega) ?_)
      intro v1 w2 hO2 hb2 hsz2
      obtain ⟨A2, c2, hv, _, _⟩ := ownsRow_slice (hO2.at_ (i := 0) rfl)
      simp only at hv
      subst hv
      have HO2 := hide_ (hO2.at_ (i := 0) rfl)
      have HB2 := hide_ ((HB.out.alloc HB.out.size _).trans hb2)
      clear hO2 hb2
      go_wp2
      go_roundw
      case rel =>
        refine ⟨k + 1, A2, c2, by omega, by go_num, rfl, ?_, HB2.out⟩
        rw [HST.out]
        exact HO2.out
      case measure => simp [intOf]; omega
    · obtain rfl : k = n := by omega
      have HO := hide_ hown
      have HB := hide_ hb
      clear hown hb
      go_wp2
      go_ret
      refine ⟨A', cc, rfl, ?_, HB.out⟩
      have h := HO.out
      rw [List.take_of_length_le (by rw [HL.out]; omega)] at h
      exact h
end Go.Proofs.Ytgppbdcnpailaaa
