/-
  The walks of the functions that each is called with.
-/
import Derived.Deep.RegionHeld3
import Derived.Test.YtgppbdcnpailaaaMem
namespace Go.Proofs.Ytgppbdcnpailaaa
open Go.RowKit

def mboxR (q g : Nat) : Ro := ⟨48, 1, .slice (some ⟨q, 0, none⟩) 1 1, 1, [.pointer (some ⟨g, 0, none⟩)]⟩
def fourR (f : Nat) (ys : List Int) : Ro := ⟨155, 1, .slice (some ⟨f, 0, none⟩) 4 4, 4, u8s ys⟩
def sboxR (q : Nat) (A : Option Addr) (n c : Nat) : Ro := ⟨46, 1, .slice (some ⟨q, 0, none⟩) 1 1, 1, [.slice A n c]⟩
def gt (xs : List Int) (p : Int) : Int := xs[p.toNat]?.getD 0
theorem u8s_get {xs : List Int} {j : Nat} (h : j < xs.length) : (u8s xs)[j]? = some (.int .u8 (xs[j]?.getD 0)) := by
  rw [List.getElem?_map, List.getElem?_eq_getElem h]
  rfl
theorem gt_nat (xs : List Int) (p : Nat) : gt xs (p : Int) = xs[p]?.getD 0 := by simp [gt]

section
variable {W : World} {B g d N c q f : Nat} {logs : Bool} {tv : Value} {ts : List (Int × Bool)} {xs ys : List Int} {ex : List Ro}
set_option maxHeartbeats 1000000 in
theorem load1_any (i : Nat) (p : Int) (hO : Owns W B (memRows g d N c logs tv ts xs ++ ([mboxR q g, fourR f ys] ++ ex))) (hi : i < 4) (hy : ys.length = 4) (hx : xs.length = N) (h0 : 0 ≤ p) (h1 : p < N) :
    Calls Try.prog 112 #[.int .i64 i, .int .u32 p, .pointer (some ⟨q, 0, none⟩), .pointer (some ⟨f, 0, none⟩)] W fun e W' => e = .returned (.tuple #[]) ∧
      Owns W' B (memRows g d N c logs tv ts xs ++ ([mboxR q g, fourR f (ys.set i (gt xs p))] ++ ex)) ∧ Below B W W' := by
  obtain ⟨k, rfl⟩ := Int.eq_ofNat_of_zero_le h0
  have hk : k < N := by omega
  have c0 : W.cell? ⟨g, 0, none⟩ = some (.slice (some ⟨d, 0, none⟩) N c) := hO.cell (i := 0) rfl rfl
  have c1 : W.cell? ⟨q, 0, none⟩ = some (.pointer (some ⟨g, 0, none⟩)) := hO.cell (i := 3) rfl rfl
  have c2 : W.cell? ⟨d, k, none⟩ = some (.int .u8 (xs[k]?.getD 0)) := hO.cell (i := 1) rfl (u8s_get (by omega))
  have c3 : W.cell? ⟨f, i, none⟩ = some (.int .u8 (ys[i]?.getD 0)) := hO.cell (i := 4) rfl (u8s_get (by omega))
  have f3 := hO.frozen (i := 4) rfl i
  have hst := hO.store (i := 4) (e := 155) (size := 1) (n := 4) (g := f) (c := 4) (j := i) (xs := u8s ys) rfl (by simp; omega) (.int .u8 (xs[k]?.getD 0))
  have hb := (Below.refl B W).setCell (p := ⟨f, i, none⟩) (hO.base (i := 4) rfl).1 (.int .u8 (xs[k]?.getD 0))
  rw [show (u8s ys).set i (.int .u8 (xs[k]?.getD 0)) = u8s (ys.set i (xs[k]?.getD 0)) from (List.map_set).symm] at hst
  rw [gt_nat]
  have HS := hide_ hst
  have HB := hide_ hb
  have i4 : (i : Int) < 4 := by omega
  clear hO hst hb hx hy h0 h1
  go_enter Try.func112, Try.ntmps112
  go_wp2
  go_end0
  exact ⟨rfl, HS.out, HB.out⟩
set_option maxHeartbeats 1000000 in
theorem store1_any (i : Nat) (p : Int) (hO : Owns W B (memRows g d N c logs tv ts xs ++ ([mboxR q g, fourR f ys] ++ ex))) (hi : i < 4) (hy : ys.length = 4) (hx : xs.length = N) (h0 : 0 ≤ p) (h1 : p < N) :
    Calls Try.prog 111 #[.int .i64 i, .int .u32 p, .pointer (some ⟨f, 0, none⟩), .pointer (some ⟨q, 0, none⟩)] W fun e W' => e = .returned (.tuple #[]) ∧
      Owns W' B (memRows g d N c logs tv ts (xs.set p.toNat (ys[i]?.getD 0)) ++ ([mboxR q g, fourR f ys] ++ ex)) ∧ Below B W W' := by
  obtain ⟨k, rfl⟩ := Int.eq_ofNat_of_zero_le h0
  have hk : k < N := by omega
  have c0 : W.cell? ⟨g, 0, none⟩ = some (.slice (some ⟨d, 0, none⟩) N c) := hO.cell (i := 0) rfl rfl
  have c1 : W.cell? ⟨q, 0, none⟩ = some (.pointer (some ⟨g, 0, none⟩)) := hO.cell (i := 3) rfl rfl
  have c2 : W.cell? ⟨d, k, none⟩ = some (.int .u8 (xs[k]?.getD 0)) := hO.cell (i := 1) rfl (u8s_get (by omega))
  have c3 : W.cell? ⟨f, i, none⟩ = some (.int .u8 (ys[i]?.getD 0)) := hO.cell (i := 4) rfl (u8s_get (by omega))
  have f3 := hO.frozen (i := 1) rfl k
  have hst := hO.store (i := 1) (e := 5) (size := 1) (n := N) (g := d) (c := c) (j := k) (xs := u8s xs) rfl (by simp; omega) (.int .u8 (ys[i]?.getD 0))
  have hb := (Below.refl B W).setCell (p := ⟨d, k, none⟩) (hO.base (i := 1) rfl).1 (.int .u8 (ys[i]?.getD 0))
  rw [show (u8s xs).set k (.int .u8 (ys[i]?.getD 0)) = u8s (xs.set k (ys[i]?.getD 0)) from (List.map_set).symm] at hst
  simp only [Int.toNat_natCast]
  have HS := hide_ hst
  have HB := hide_ hb
  have i4 : (i : Int) < 4 := by omega
  have i0 : (0 : Int) ≤ (i : Int) := by omega
  have k0 : (0 : Int) ≤ (k : Int) := by omega
  have k1 : (k : Int) < (N : Int) := by omega
  have HK : Hid (∀ W', W' = (W.setCell ⟨d, k, none⟩ (.int .u8 (ys[i]?.getD 0))).drew → W'.cell? ⟨q, 0, none⟩ = some (.pointer (some ⟨g, 0, none⟩)) ∧ W'.cell? ⟨g, 0, none⟩ = some (.slice (some ⟨d, 0, none⟩) N c) ∧ W'.cell? ⟨f, i, none⟩ = some (.int .u8 (ys[i]?.getD 0))) := by
    rintro W' rfl
    exact ⟨hst.cell (i := 3) rfl rfl, hst.cell (i := 0) rfl rfl, hst.cell (i := 4) rfl (u8s_get (by omega))⟩
  clear hO hst hb hx hy h0 h1
  go_enter Try.func111, Try.ntmps111
  go_wp2
  go_region_held3 (fun W' => W'.cell? ⟨q, 0, none⟩ = some (.pointer (some ⟨g, 0, none⟩)) ∧ W'.cell? ⟨g, 0, none⟩ = some (.slice (some ⟨d, 0, none⟩) N c) ∧ W'.cell? ⟨f, i, none⟩ = some (.int .u8 (ys[i]?.getD 0)))
    (first | exact ⟨c1, c0, c3⟩ | exact HK.out _ rfl) (fail)
  go_wp2
  go_end0
  exact ⟨rfl, HS.out.drew, HB.out.drew⟩
/-- the list that read fills -/
def outR (o n co : Nat) (os : List Int) : Ro := ⟨5, 1, .slice (some ⟨o, 0, none⟩) n co, n, u8s os⟩
set_option maxHeartbeats 1000000 in
theorem read1_any (i n o co : Nat) (os : List Int) (p : Int) (hO : Owns W B (memRows g d N c logs tv ts xs ++ ([mboxR q g, sboxR f (some ⟨o, 0, none⟩) n co, outR o n co os] ++ ex))) (hi : i < n) (hy : os.length = n) (hx : xs.length = N) (h0 : 0 ≤ p) (h1 : p < N) :
    Calls Try.prog 116 #[.int .i64 i, .int .u32 p, .pointer (some ⟨q, 0, none⟩), .pointer (some ⟨f, 0, none⟩)] W fun e W' => e = .returned (.tuple #[]) ∧
      Owns W' B (memRows g d N c logs tv ts xs ++ ([mboxR q g, sboxR f (some ⟨o, 0, none⟩) n co, outR o n co (os.set i (gt xs p))] ++ ex)) ∧ Below B W W' := by
  obtain ⟨k, rfl⟩ := Int.eq_ofNat_of_zero_le h0
  have hk : k < N := by omega
  have c0 : W.cell? ⟨g, 0, none⟩ = some (.slice (some ⟨d, 0, none⟩) N c) := hO.cell (i := 0) rfl rfl
  have c1 : W.cell? ⟨q, 0, none⟩ = some (.pointer (some ⟨g, 0, none⟩)) := hO.cell (i := 3) rfl rfl
  have c4 : W.cell? ⟨f, 0, none⟩ = some (.slice (some ⟨o, 0, none⟩) n co) := hO.cell (i := 4) rfl rfl
  have c2 : W.cell? ⟨d, k, none⟩ = some (.int .u8 (xs[k]?.getD 0)) := hO.cell (i := 1) rfl (u8s_get (by omega))
  have c3 : W.cell? ⟨o, i, none⟩ = some (.int .u8 (os[i]?.getD 0)) := hO.cell (i := 5) rfl (u8s_get (by omega))
  have f3 := hO.frozen (i := 5) rfl i
  have hst := hO.store (i := 5) (e := 5) (size := 1) (n := n) (g := o) (c := co) (j := i) (xs := u8s os) rfl (by simp; omega) (.int .u8 (xs[k]?.getD 0))
  have hb := (Below.refl B W).setCell (p := ⟨o, i, none⟩) (hO.base (i := 5) rfl).1 (.int .u8 (xs[k]?.getD 0))
  rw [show (u8s os).set i (.int .u8 (xs[k]?.getD 0)) = u8s (os.set i (xs[k]?.getD 0)) from (List.map_set).symm] at hst
  rw [gt_nat]
  have HS := hide_ hst
  have HB := hide_ hb
  have i4 : (i : Int) < (n : Int) := by omega
  have i0 : (0 : Int) ≤ (i : Int) := by omega
  have k0 : (0 : Int) ≤ (k : Int) := by omega
  have k1 : (k : Int) < (N : Int) := by omega
  have HK : Hid (∀ W', W' = (W.setCell ⟨o, i, none⟩ (.int .u8 (xs[k]?.getD 0))).drew → W'.cell? ⟨q, 0, none⟩ = some (.pointer (some ⟨g, 0, none⟩)) ∧ W'.cell? ⟨g, 0, none⟩ = some (.slice (some ⟨d, 0, none⟩) N c) ∧ W'.cell? ⟨f, 0, none⟩ = some (.slice (some ⟨o, 0, none⟩) n co) ∧ W'.cell? ⟨d, k, none⟩ = some (.int .u8 (xs[k]?.getD 0))) := by
    rintro W' rfl
    exact ⟨hst.cell (i := 3) rfl rfl, hst.cell (i := 0) rfl rfl, hst.cell (i := 4) rfl rfl, hst.cell (i := 1) rfl (u8s_get (by omega))⟩
  clear hO hst hb hx hy h0 h1
  go_enter Try.func116, Try.ntmps116
  go_wp2
  go_region_held3 (fun W' => W'.cell? ⟨q, 0, none⟩ = some (.pointer (some ⟨g, 0, none⟩)) ∧ W'.cell? ⟨g, 0, none⟩ = some (.slice (some ⟨d, 0, none⟩) N c) ∧ W'.cell? ⟨f, 0, none⟩ = some (.slice (some ⟨o, 0, none⟩) n co) ∧ W'.cell? ⟨d, k, none⟩ = some (.int .u8 (xs[k]?.getD 0)))
    (first | exact ⟨c1, c0, c4, c2⟩ | exact HK.out _ rfl) (fail)
  go_wp2
  go_end0
  exact ⟨rfl, HS.out.drew, HB.out.drew⟩
set_option maxHeartbeats 1000000 in
theorem write1_any (i n cb : Nat) (A : Option Addr) (bs : List Int) (p : Int) (hO : Owns W B (memRows g d N c logs tv ts xs ++ ([mboxR q g, sboxR f A n cb] ++ ex))) (hr : Reads W W.heap.size 1 A n (u8s bs)) (hi : i < n) (hx : xs.length = N) (h0 : 0 ≤ p) (h1 : p < N)
    (hr2 : ∀ y : Int, Reads (W.setCell ⟨d, p.toNat, none⟩ (.int .u8 y)) W.heap.size 1 A n (u8s bs)) :
    Calls Try.prog 115 #[.int .i64 i, .int .u32 p, .pointer (some ⟨f, 0, none⟩), .pointer (some ⟨q, 0, none⟩)] W fun e W' => e = .returned (.tuple #[]) ∧
      Owns W' B (memRows g d N c logs tv ts (xs.set p.toNat (bs[i]?.getD 0)) ++ ([mboxR q g, sboxR f A n cb] ++ ex)) ∧ Below B W W' := by
  obtain ⟨k, rfl⟩ := Int.eq_ofNat_of_zero_le h0
  have hk : k < N := by omega
  have hbl : bs.length = n := by simpa using hr.1
  obtain ⟨ad, u, rfl, hab, hu, hcu⟩ := hr.at_ hi
  rw [u8s_get (by omega)] at hu
  injection hu with hu
  subst hu
  obtain ⟨ad', u', had, _, hu2, hcu2⟩ := (hr2 (bs[i]?.getD 0)).at_ hi
  rw [u8s_get (by omega)] at hu2
  injection hu2 with hu2
  injection had with had
  subst hu2 had
  have c0 : W.cell? ⟨g, 0, none⟩ = some (.slice (some ⟨d, 0, none⟩) N c) := hO.cell (i := 0) rfl rfl
  have c1 : W.cell? ⟨q, 0, none⟩ = some (.pointer (some ⟨g, 0, none⟩)) := hO.cell (i := 3) rfl rfl
  have c4 : W.cell? ⟨f, 0, none⟩ = some (.slice (some ad) n cb) := hO.cell (i := 4) rfl rfl
  have c2 : W.cell? ⟨d, k, none⟩ = some (.int .u8 (xs[k]?.getD 0)) := hO.cell (i := 1) rfl (u8s_get (by omega))
  have f3 := hO.frozen (i := 1) rfl k
  have hst := hO.store (i := 1) (e := 5) (size := 1) (n := N) (g := d) (c := c) (j := k) (xs := u8s xs) rfl (by simp; omega) (.int .u8 (bs[i]?.getD 0))
  have hb := (Below.refl B W).setCell (p := ⟨d, k, none⟩) (hO.base (i := 1) rfl).1 (.int .u8 (bs[i]?.getD 0))
  rw [show (u8s xs).set k (.int .u8 (bs[i]?.getD 0)) = u8s (xs.set k (bs[i]?.getD 0)) from (List.map_set).symm] at hst
  simp only [Int.toNat_natCast] at hcu2 ⊢
  have HS := hide_ hst
  have HB := hide_ hb
  have i4 : (i : Int) < (n : Int) := by omega
  have i0 : (0 : Int) ≤ (i : Int) := by omega
  have k0 : (0 : Int) ≤ (k : Int) := by omega
  have k1 : (k : Int) < (N : Int) := by omega
  have HK : Hid (∀ W', W' = (W.setCell ⟨d, k, none⟩ (.int .u8 (bs[i]?.getD 0))).drew → W'.cell? ⟨q, 0, none⟩ = some (.pointer (some ⟨g, 0, none⟩)) ∧ W'.cell? ⟨g, 0, none⟩ = some (.slice (some ⟨d, 0, none⟩) N c) ∧ W'.cell? ⟨f, 0, none⟩ = some (.slice (some ad) n cb) ∧ W'.cell? (ad.add i) = some (.int .u8 (bs[i]?.getD 0))) := by
    rintro W' rfl
    exact ⟨hst.cell (i := 3) rfl rfl, hst.cell (i := 0) rfl rfl, hst.cell (i := 4) rfl rfl, hcu2⟩
  clear hO hst hb hx h0 h1 hr hr2 hbl hcu2
  go_enter Try.func115, Try.ntmps115
  go_wp2
  go_region_held3 (fun W' => W'.cell? ⟨q, 0, none⟩ = some (.pointer (some ⟨g, 0, none⟩)) ∧ W'.cell? ⟨g, 0, none⟩ = some (.slice (some ⟨d, 0, none⟩) N c) ∧ W'.cell? ⟨f, 0, none⟩ = some (.slice (some ad) n cb) ∧ W'.cell? (ad.add i) = some (.int .u8 (bs[i]?.getD 0)))
    (first | exact ⟨c1, c0, c4, hcu⟩ | exact HK.out _ rfl) (fail)
  go_wp2
  go_end0
  exact ⟨rfl, HS.out.drew, HB.out.drew⟩
end
end Go.Proofs.Ytgppbdcnpailaaa
