/-
  The walk of the document's Guest.
-/
import Derived.Test.YtohpnalklbjkoaaGuestP
import Derived.Test.YtohpnalklbjkoaaCutsWalk
import Derived.Test.YtohpnalklbjkoaaShowLaw
import Derived.Test.YtohpnalklbjkoaaBytesW
namespace Go.Proofs.Ytohpnalklbjkoaa
open Go.RowKit Go.PlainAid

/-- where the next rune begins, or the text ends -/
theorem next_at (s : ByteArray) : ∀ (k i : Nat) (c : Nat × Int), i ≤ s.size → (cutsAt s i)[k]? = some c → (match (cutsAt s i)[k + 1]? with | some d => d.1 | none => s.size) = c.1 + cutN s c.1 := by
  intro k
  induction k with
  | zero =>
    intro i c hi h
    rcases Nat.lt_or_ge i s.size with hl | hl
    · have hf := cutN_fits s i hl
      rw [cutsAt_lt s i hl] at h ⊢
      simp only [List.getElem?_cons_zero, Option.some.injEq] at h
      subst h
      simp only [Nat.zero_add, List.getElem?_cons_succ]
      rcases Nat.lt_or_ge (i + cutN s i) s.size with h2 | h2
      · rw [cutsAt_lt s _ h2]; rfl
      · rw [cutsAt_ge s _ h2]; simp; omega
    · rw [cutsAt_ge s i hl] at h
      simp at h
  | succ k ih =>
    intro i c hi h
    rcases Nat.lt_or_ge i s.size with hl | hl
    · have hf := cutN_fits s i hl
      rw [cutsAt_lt s i hl, List.getElem?_cons_succ] at h
      rw [cutsAt_lt s i hl, List.getElem?_cons_succ]
      exact ih (i + cutN s i) c hf h
    · rw [cutsAt_ge s i hl] at h
      simp at h
theorem upTo_at (xs : List Int) (k : Nat) (h : k < (upTo xs).length) : xs[k]?.getD 0 ≠ 0 := by
  have h1 := upTo_take xs
  have h2 : xs[k]? = (upTo xs)[k]? := by
    rw [← h1, List.getElem?_take, if_pos h]
  rw [h2, List.getElem?_eq_getElem h, Option.getD_some]
  have hm : (upTo xs)[k] ∈ upTo xs := List.getElem_mem h
  have := List.all_takeWhile (p := fun (x : Int) => decide (x ≠ 0)) (l := xs)
  have := List.all_eq_true.1 this _ hm
  simpa using this
theorem upTo_end (xs : List Int) (h : (upTo xs).length < xs.length) : xs[(upTo xs).length]?.getD 0 = 0 := by
  unfold upTo at h ⊢
  induction xs with
  | nil => simp at h
  | cons x l ih =>
    rw [List.takeWhile_cons] at h ⊢
    by_cases hx : x = 0
    · subst hx; simp
    · rw [if_pos (by simpa using hx)] at h ⊢
      simp only [List.length_cons, List.getElem?_cons_succ] at h ⊢
      exact ih (by omega)
/-- the bytes of a rune that may be told -/
theorem told_byte (V : ByteArray) (c : Nat × Int) (hm : c ∈ cuts V) (hp : printedZ c.2 = true) : cutN V c.1 = (Lib.encodeRuneZ c.2).length ∧ ∀ j, j < cutN V c.1 → bt V (c.1 + j) = (Lib.encodeRuneZ c.2)[j]?.getD 0 := by
  obtain ⟨h1, h2⟩ := cuts_mem V c hm
  have hge : 10 ≤ c.2 := by
    have := of_decide_eq_true hp
    omega
  have hl : ¬ lost V c.1 := fun hl => by
    rw [h2] at hge
    unfold cutR at hge
    rw [if_pos hl] at hge
    omega
  have e : c.2 = ((Utf8.decode V c.1).1 : Int) := by rw [h2]; unfold cutR; rw [if_neg hl]
  obtain ⟨hr, hma, hcn⟩ := cut_code V c.1 h1 hl
  have hz := codeZ _ hr
  rw [← e] at hz
  have hf := cutN_fits V c.1 h1
  refine ⟨by rw [hcn, hz, List.length_map], fun j hj => ?_⟩
  have hjl : j < (codeL (Utf8.decode V c.1).1).length := by rw [← hcn]; exact hj
  rw [bt_eq V _ (by omega), hma.2 j hjl, hz, List.getElem?_map, List.getElem?_eq_getElem hjl]
  rfl
set_option maxRecDepth 100000 in
set_option maxHeartbeats 1000000 in
theorem rGuest_any (A : Option Addr) (n c : Nat) (xs : List Int) (B : Nat) (w : World) (ha : Reads w B 1 A n (u8s xs)) (hB : B ≤ w.heap.size) (hnc : n ≤ c) (hn : n ≤ 1048576) (_hx : ∀ x ∈ xs, isByte x) :
    Calls Try.prog 32 #[.slice A n c] w fun e w' => e = .returned (.string (strOfNums (guestL (strOfNums (upTo xs))))) ∧ Below w.heap.size w w' := by
  obtain ⟨i0, hi, hz0, hz1, hz2⟩ := info_parts bld_u8
  have la : xs.length = n := by simpa using ha.1
  have hul := upTo_len xs
  have hup := upTo_at xs
  have hue := upTo_end xs
  have htk := upTo_take xs
  have hVs := strOfNums_size (upTo xs)
  obtain ⟨N, hN⟩ : ∃ N, N = (upTo xs).length := ⟨_, rfl⟩
  have hr6 := ha.take_ (k := N) (by omega)
  rw [← List.map_take, hN, htk, ← hN] at hr6
  have hcv := run_str_of_reads (P := Try.prog) w B 31 5 Try.underlying31 Try.underlying5 A N c (upTo xs) hr6 9 Try.underlying9
  obtain ⟨V, hV⟩ : ∃ V, V = strOfNums (upTo xs) := ⟨_, rfl⟩
  rw [← hV] at hcv hVs ⊢
  rw [← hN] at hul hup hue hVs
  have HUP := hide_ hup
  have HUE := hide_ hue
  have HLA := hide_ la
  have HVS := hide_ hVs
  have hNn : N ≤ n := by omega
  have hNc : N ≤ c := by omega
  clear hup hue hV hN htk la hVs hr6 hul
  go_enter Try.func32, Try.ntmps32
  go_wp2
  go_loopw [3] (fun i wr => ∃ k : Nat, k ≤ N ∧ i = .int .i64 k ∧ wr = w) (fun i _ => n - (intOf i).toNat)
  case atStart => exact ⟨0, Nat.zero_le _, rfl, rfl⟩
  case round =>
    obtain ⟨k, hk, rfl, rfl⟩ := hrel
    by_cases hlt : k < N
    · obtain ⟨ad, u, rfl, hadb, hu1, hc⟩ := ha.at_ (show k < n by omega)
      have hu := get_map (Value.int .u8) xs 0 k (by rw [HLA.out]; omega) hu1
      subst hu
      have hne := HUP.out k hlt
      obtain ⟨x, hxx⟩ : ∃ x, x = xs[k]?.getD 0 := ⟨_, rfl⟩
      rw [← hxx] at hc hne
      have d1 : (x != 0) = true := bne_iff_ne.2 hne
      clear hxx hu1 hne
      go_wp2
      go_roundw
      case rel => exact ⟨k + 1, by omega, by go_num, by trivial⟩
      case measure => simp [intOf]; omega
    · obtain rfl : k = N := by omega
      have hcuts := fun W => Cuts_reads V W (by rw [HVS.out]; omega)
      have HCUTS := hide_ hcuts
      have hV6 : V.size ≤ 1048576 := by rw [HVS.out]; omega
      have hcl := cuts_len V
      have hKV := hide_ HVS.out
      have hgo : (k < n ∧ ∃ ad : Addr, A = some ad ∧ wr.cell? (ad.add k) = some (.int .u8 0)) ∨ k = n := by
        rcases Nat.lt_or_ge k n with h | h
        · obtain ⟨ad, u, hA, hadb, hu1, hc⟩ := ha.at_ h
          have hu := get_map (Value.int .u8) xs 0 k (by rw [HLA.out]; exact h) hu1
          rw [HUE.out (by rw [HLA.out]; exact h)] at hu
          exact .inl ⟨h, ad, hA, by rw [hc, hu]⟩
        · exact .inr (by omega)
      clear hcuts HVS
      rcases hgo with ⟨hkn, ad, rfl, hc⟩ | rfl
      all_goals
        go_wp2_with (go_at_call 14; refine (HCUTS.out _).mono ?_)
        rintro e w1 ⟨A1, c1, A2, c2, rfl, hP, hQ, hb1⟩
        obtain ⟨L, hL⟩ : ∃ L, L = (cuts V).length := ⟨_, rfl⟩
        rw [← hL] at hP hQ hcl ⊢
        have HL := hide_ hL
        clear hL
        go_wp2
        go_loopw [7, 8] (fun v i wr => ∃ m : Nat, m ≤ L ∧ i = .int .i64 m ∧ Owns wr w1.heap.size [⟨5, 1, v, (((cuts V).take m).flatMap guestB).length, u8s (((cuts V).take m).flatMap guestB)⟩] ∧ Below w1.heap.size w1 wr) (fun _ i _ => L - (intOf i).toNat)
        case atStart => exact ⟨0, Nat.zero_le _, rfl, one_row (World.ownsRow_nil _ _ _ _), Below.refl _ _⟩
        case round =>
          obtain ⟨m, hm, rfl, hO, hb⟩ := hrel
          obtain ⟨A0, c0, hv0, _, _⟩ := ownsRow_slice (hO.at_ (i := 0) rfl)
          simp only at hv0
          subst hv0
          have hsz := hb.size
          have hgl := guest_len ((cuts V).take m)
          have htl : ((cuts V).take m).length ≤ m := by simp; omega
          obtain ⟨acc, hacc⟩ : ∃ acc, acc = ((cuts V).take m).flatMap guestB := ⟨_, rfl⟩
          rw [← hacc] at hO hgl ⊢
          obtain ⟨a, haa⟩ : ∃ a, a = acc.length := ⟨_, rfl⟩
          rw [← haa] at hO hgl ⊢
          by_cases hlt2 : m < L
          · obtain ⟨ad1, u1, rfl, _, hu1, hc1⟩ := (hP.below hb).at_ hlt2
            obtain ⟨ad2, u2, rfl, _, hu2, hc2⟩ := (hQ.below hb).at_ hlt2
            obtain ⟨d, hcc⟩ : ∃ d, (cuts V)[m]? = some d := ⟨_, List.getElem?_eq_getElem (by rw [← HL.out]; exact hlt2)⟩
            have e1 : u1 = .int .i64 (d.1 : Nat) := by rw [List.getElem?_map, hcc] at hu1; simpa using hu1.symm
            have e2 : u2 = .int .i32 d.2 := by rw [List.getElem?_map, hcc] at hu2; simpa using hu2.symm
            subst e1 e2
            have hdm : d ∈ cuts V := List.mem_of_getElem? hcc
            have hnx := next_at V m 0 d (Nat.zero_le _) hcc
            have hta : ((cuts V).take (m + 1)).flatMap guestB = acc ++ guestB d := by
              rw [List.take_add_one, hcc, List.flatMap_append, ← hacc]
              simp
            have hpl := (cuts_mem V d hdm).1
            have hcp := cutN_pos V d.1
            have hcf := cutN_fits V d.1 hpl
            have htb := told_byte V d hdm
            obtain ⟨p, r⟩ := d
            simp only at hpl hcp hcf htb hnx hc1 hc2
            obtain ⟨E, hE⟩ : ∃ E, E = p + cutN V p := ⟨_, rfl⟩
            have hnext : (m + 1 < L ∧ wr.cell? ⟨ad1.block, ad1.off + (m + 1), none⟩ = some (.int .i64 E)) ∨ (m + 1 = L ∧ E = k) := by
              rcases Nat.lt_or_ge (m + 1) L with h | h
              · obtain ⟨ad3, u3, ha3, _, hu3, hc3⟩ := (hP.below hb).at_ h
                injection ha3 with ha3
                subst ha3
                obtain ⟨d3, hcc3⟩ : ∃ d, (cuts V)[m + 1]? = some d := ⟨_, List.getElem?_eq_getElem (by rw [← HL.out]; exact h)⟩
                have e3 : u3 = .int .i64 (d3.1 : Nat) := by rw [List.getElem?_map, hcc3] at hu3; simpa using hu3.symm
                rw [← cuts_at, hcc3] at hnx
                simp only at hnx
                rw [show ad1.add (m + 1) = ⟨ad1.block, ad1.off + (m + 1), none⟩ from by unfold Addr.add; rw [if_neg (by omega)]] at hc3
                exact .inl ⟨h, by rw [hc3, e3, hnx, hE]⟩
              · have hnone : (cuts V)[m + 1]? = none := List.getElem?_eq_none (by rw [← HL.out]; exact h)
                rw [← cuts_at, hnone] at hnx
                simp only at hnx
                exact .inr ⟨by omega, by rw [hE, ← hnx, hKV.out]⟩
            have hEV : E ≤ V.size := by omega
            have hpE : p < E := by omega
            have HA := hide_ haa
            have hml : m ≤ 1048576 := by omega
            have e5 : ((m : Int) + 1).toNat = m + 1 := by omega
            clear hu1 hu2 hcc hnx hdm hcp hcf hacc haa
            by_cases hpz : printedZ r = true
            · obtain ⟨t1, t2⟩ := htb hpz
              have hw3 : r = 10 ∨ (32 ≤ r ∧ r < 127) ∨ 159 < r := by
                have := of_decide_eq_true hpz
                omega
              have hgb1 : guestB (p, r) = Lib.encodeRuneZ r := by unfold guestB; rw [if_pos hpz]
              obtain ⟨Z, hZ⟩ : ∃ Z, Z = Lib.encodeRuneZ r := ⟨_, rfl⟩
              rw [hgb1, ← hZ] at hta
              rw [← hZ] at t1 t2
              have HACC := hide_ hta
              have HZL := hide_ (show Z.length = E - p by omega)
              have HZ := hide_ (show ∀ j, j < E - p → bt V (p + j) = Z[j]?.getD 0 from fun j hj => t2 j (by omega))
              clear hta t1 t2 htb hpz hgb1 hZ hE
              rcases hnext with ⟨g1, hc3⟩ | ⟨g1, hEk⟩
              · rcases hw3 with h | ⟨h, h'⟩ | h
                · subst h
                  go_wp2
                  go_loopw [7, 11] (fun v i wr => ∃ j : Nat, p + j ≤ E ∧ i = .int .i64 (p + j : Nat) ∧ Owns wr w1.heap.size [⟨5, 1, v, a + j, u8s (acc ++ Z.take j)⟩] ∧ Below w1.heap.size w1 wr) (fun _ i _ => E - (intOf i).toNat)
                  case atStart => exact ⟨0, by omega, rfl, by simpa [HA.out] using hO, hb⟩
                  case round =>
                    obtain ⟨j, hj, rfl, hO2, hb2⟩ := hrel
                    obtain ⟨A4, c4, hv4, _, _⟩ := ownsRow_slice (hO2.at_ (i := 0) rfl)
                    simp only at hv4
                    subst hv4
                    have hsz2 := hb2.size
                    by_cases hlt3 : p + j < E
                    · have hbt := get_bt V
                      have hy := HZ.out j (by omega)
                      obtain ⟨y, hyy⟩ : ∃ y, y = Z[j]?.getD 0 := ⟨_, rfl⟩
                      rw [← hyy] at hy
                      have hjZ : j < Z.length := by rw [HZL.out]; omega
                      have HT := hide_ (show Z.take (j + 1) = Z.take j ++ [y] by rw [take_snoc Z 0 j hjZ, ← hyy])
                      have e2 : ((p : Int) + (j : Int)).toNat = p + j := by omega
                      clear hyy hjZ
                      go_wp2_with (at_builtin; refine wpList_append_owns _ rfl (.tmp 78) (.tmp 82) 31 rfl w1.heap.size _ 0 5 1 _ (a + j) _ rfl (hO2.alloc _) (by simp; omega) i0 _ 1 Try.underlying31 hi hz0 hz1 hz2 rfl (by omega) rfl _ _ 1 1 _ rfl (reads_new wr 5 1 1 [.int .u8 y] rfl) (by simp [Value.oneCell']) (by simp only [maxLen]; omega) (by omega) ?_; intro v6 w6 hO6 hb6 hsz6)
                      go_roundw
                      case rel =>
                        refine ⟨j + 1, by omega, by go_num, ?_, (hb2.alloc (by omega) _).trans hb6⟩
                        rw [HT.out, ← List.append_assoc]
                        simpa [u8s, Nat.add_assoc] using hO6
                      case measure => simp [intOf]; omega
                    · have hjj : j = Z.length := by rw [HZL.out]; omega
                      subst hjj
                      have HT := hide_ (show Z.take Z.length = Z from List.take_length)
                      rw [HT.out] at hO2
                      go_wp2
                      go_roundw
                      case rel =>
                        refine ⟨m + 1, by omega, by go_num, ?_, hb2⟩
                        rw [HACC.out]
                        simpa [u8s, HA.out] using hO2
                      case measure => simp [intOf]; omega
                · have d0 : (r == 10) = false := by rw [beq_eq_false_iff_ne]; omega
                  have d1 : decide (32 ≤ r) = true := by simpa using h
                  have d2 : decide (r < 127) = true := by simpa using h'
                  clear h h'
                  go_wp2
                  go_loopw [7, 11] (fun v i wr => ∃ j : Nat, p + j ≤ E ∧ i = .int .i64 (p + j : Nat) ∧ Owns wr w1.heap.size [⟨5, 1, v, a + j, u8s (acc ++ Z.take j)⟩] ∧ Below w1.heap.size w1 wr) (fun _ i _ => E - (intOf i).toNat)
                  case atStart => exact ⟨0, by omega, rfl, by simpa [HA.out] using hO, hb⟩
                  case round =>
                    obtain ⟨j, hj, rfl, hO2, hb2⟩ := hrel
                    obtain ⟨A4, c4, hv4, _, _⟩ := ownsRow_slice (hO2.at_ (i := 0) rfl)
                    simp only at hv4
                    subst hv4
                    have hsz2 := hb2.size
                    by_cases hlt3 : p + j < E
                    · have hbt := get_bt V
                      have hy := HZ.out j (by omega)
                      obtain ⟨y, hyy⟩ : ∃ y, y = Z[j]?.getD 0 := ⟨_, rfl⟩
                      rw [← hyy] at hy
                      have hjZ : j < Z.length := by rw [HZL.out]; omega
                      have HT := hide_ (show Z.take (j + 1) = Z.take j ++ [y] by rw [take_snoc Z 0 j hjZ, ← hyy])
                      have e2 : ((p : Int) + (j : Int)).toNat = p + j := by omega
                      clear hyy hjZ
                      go_wp2_with (at_builtin; refine wpList_append_owns _ rfl (.tmp 78) (.tmp 82) 31 rfl w1.heap.size _ 0 5 1 _ (a + j) _ rfl (hO2.alloc _) (by simp; omega) i0 _ 1 Try.underlying31 hi hz0 hz1 hz2 rfl (by omega) rfl _ _ 1 1 _ rfl (reads_new wr 5 1 1 [.int .u8 y] rfl) (by simp [Value.oneCell']) (by simp only [maxLen]; omega) (by omega) ?_; intro v6 w6 hO6 hb6 hsz6)
                      go_roundw
                      case rel =>
                        refine ⟨j + 1, by omega, by go_num, ?_, (hb2.alloc (by omega) _).trans hb6⟩
                        rw [HT.out, ← List.append_assoc]
                        simpa [u8s, Nat.add_assoc] using hO6
                      case measure => simp [intOf]; omega
                    · have hjj : j = Z.length := by rw [HZL.out]; omega
                      subst hjj
                      have HT := hide_ (show Z.take Z.length = Z from List.take_length)
                      rw [HT.out] at hO2
                      go_wp2
                      go_roundw
                      case rel =>
                        refine ⟨m + 1, by omega, by go_num, ?_, hb2⟩
                        rw [HACC.out]
                        simpa [u8s, HA.out] using hO2
                      case measure => simp [intOf]; omega
                · have d0 : (r == 10) = false := by rw [beq_eq_false_iff_ne]; omega
                  have d1 : decide (32 ≤ r) = true := by simp; omega
                  have d2 : decide (r < 127) = false := by simp; omega
                  have d3 : decide (159 < r) = true := by simpa using h
                  clear h
                  go_wp2
                  go_loopw [7, 11] (fun v i wr => ∃ j : Nat, p + j ≤ E ∧ i = .int .i64 (p + j : Nat) ∧ Owns wr w1.heap.size [⟨5, 1, v, a + j, u8s (acc ++ Z.take j)⟩] ∧ Below w1.heap.size w1 wr) (fun _ i _ => E - (intOf i).toNat)
                  case atStart => exact ⟨0, by omega, rfl, by simpa [HA.out] using hO, hb⟩
                  case round =>
                    obtain ⟨j, hj, rfl, hO2, hb2⟩ := hrel
                    obtain ⟨A4, c4, hv4, _, _⟩ := ownsRow_slice (hO2.at_ (i := 0) rfl)
                    simp only at hv4
                    subst hv4
                    have hsz2 := hb2.size
                    by_cases hlt3 : p + j < E
                    · have hbt := get_bt V
                      have hy := HZ.out j (by omega)
                      obtain ⟨y, hyy⟩ : ∃ y, y = Z[j]?.getD 0 := ⟨_, rfl⟩
                      rw [← hyy] at hy
                      have hjZ : j < Z.length := by rw [HZL.out]; omega
                      have HT := hide_ (show Z.take (j + 1) = Z.take j ++ [y] by rw [take_snoc Z 0 j hjZ, ← hyy])
                      have e2 : ((p : Int) + (j : Int)).toNat = p + j := by omega
                      clear hyy hjZ
                      go_wp2_with (at_builtin; refine wpList_append_owns _ rfl (.tmp 78) (.tmp 82) 31 rfl w1.heap.size _ 0 5 1 _ (a + j) _ rfl (hO2.alloc _) (by simp; omega) i0 _ 1 Try.underlying31 hi hz0 hz1 hz2 rfl (by omega) rfl _ _ 1 1 _ rfl (reads_new wr 5 1 1 [.int .u8 y] rfl) (by simp [Value.oneCell']) (by simp only [maxLen]; omega) (by omega) ?_; intro v6 w6 hO6 hb6 hsz6)
                      go_roundw
                      case rel =>
                        refine ⟨j + 1, by omega, by go_num, ?_, (hb2.alloc (by omega) _).trans hb6⟩
                        rw [HT.out, ← List.append_assoc]
                        simpa [u8s, Nat.add_assoc] using hO6
                      case measure => simp [intOf]; omega
                    · have hjj : j = Z.length := by rw [HZL.out]; omega
                      subst hjj
                      have HT := hide_ (show Z.take Z.length = Z from List.take_length)
                      rw [HT.out] at hO2
                      go_wp2
                      go_roundw
                      case rel =>
                        refine ⟨m + 1, by omega, by go_num, ?_, hb2⟩
                        rw [HACC.out]
                        simpa [u8s, HA.out] using hO2
                      case measure => simp [intOf]; omega
              · subst hEk
                rcases hw3 with h | ⟨h, h'⟩ | h
                · subst h
                  go_wp2
                  go_loopw [7, 11] (fun v i wr => ∃ j : Nat, p + j ≤ E ∧ i = .int .i64 (p + j : Nat) ∧ Owns wr w1.heap.size [⟨5, 1, v, a + j, u8s (acc ++ Z.take j)⟩] ∧ Below w1.heap.size w1 wr) (fun _ i _ => E - (intOf i).toNat)
                  case atStart => exact ⟨0, by omega, rfl, by simpa [HA.out] using hO, hb⟩
                  case round =>
                    obtain ⟨j, hj, rfl, hO2, hb2⟩ := hrel
                    obtain ⟨A4, c4, hv4, _, _⟩ := ownsRow_slice (hO2.at_ (i := 0) rfl)
                    simp only at hv4
                    subst hv4
                    have hsz2 := hb2.size
                    by_cases hlt3 : p + j < E
                    · have hbt := get_bt V
                      have hy := HZ.out j (by omega)
                      obtain ⟨y, hyy⟩ : ∃ y, y = Z[j]?.getD 0 := ⟨_, rfl⟩
                      rw [← hyy] at hy
                      have hjZ : j < Z.length := by rw [HZL.out]; omega
                      have HT := hide_ (show Z.take (j + 1) = Z.take j ++ [y] by rw [take_snoc Z 0 j hjZ, ← hyy])
                      have e2 : ((p : Int) + (j : Int)).toNat = p + j := by omega
                      clear hyy hjZ
                      go_wp2_with (at_builtin; refine wpList_append_owns _ rfl (.tmp 78) (.tmp 82) 31 rfl w1.heap.size _ 0 5 1 _ (a + j) _ rfl (hO2.alloc _) (by simp; omega) i0 _ 1 Try.underlying31 hi hz0 hz1 hz2 rfl (by omega) rfl _ _ 1 1 _ rfl (reads_new wr 5 1 1 [.int .u8 y] rfl) (by simp [Value.oneCell']) (by simp only [maxLen]; omega) (by omega) ?_; intro v6 w6 hO6 hb6 hsz6)
                      go_roundw
                      case rel =>
                        refine ⟨j + 1, by omega, by go_num, ?_, (hb2.alloc (by omega) _).trans hb6⟩
                        rw [HT.out, ← List.append_assoc]
                        simpa [u8s, Nat.add_assoc] using hO6
                      case measure => simp [intOf]; omega
                    · have hjj : j = Z.length := by rw [HZL.out]; omega
                      subst hjj
                      have HT := hide_ (show Z.take Z.length = Z from List.take_length)
                      rw [HT.out] at hO2
                      go_wp2
                      go_roundw
                      case rel =>
                        refine ⟨m + 1, by omega, by go_num, ?_, hb2⟩
                        rw [HACC.out]
                        simpa [u8s, HA.out] using hO2
                      case measure => simp [intOf]; omega
                · have d0 : (r == 10) = false := by rw [beq_eq_false_iff_ne]; omega
                  have d1 : decide (32 ≤ r) = true := by simpa using h
                  have d2 : decide (r < 127) = true := by simpa using h'
                  clear h h'
                  go_wp2
                  go_loopw [7, 11] (fun v i wr => ∃ j : Nat, p + j ≤ E ∧ i = .int .i64 (p + j : Nat) ∧ Owns wr w1.heap.size [⟨5, 1, v, a + j, u8s (acc ++ Z.take j)⟩] ∧ Below w1.heap.size w1 wr) (fun _ i _ => E - (intOf i).toNat)
                  case atStart => exact ⟨0, by omega, rfl, by simpa [HA.out] using hO, hb⟩
                  case round =>
                    obtain ⟨j, hj, rfl, hO2, hb2⟩ := hrel
                    obtain ⟨A4, c4, hv4, _, _⟩ := ownsRow_slice (hO2.at_ (i := 0) rfl)
                    simp only at hv4
                    subst hv4
                    have hsz2 := hb2.size
                    by_cases hlt3 : p + j < E
                    · have hbt := get_bt V
                      have hy := HZ.out j (by omega)
                      obtain ⟨y, hyy⟩ : ∃ y, y = Z[j]?.getD 0 := ⟨_, rfl⟩
                      rw [← hyy] at hy
                      have hjZ : j < Z.length := by rw [HZL.out]; omega
                      have HT := hide_ (show Z.take (j + 1) = Z.take j ++ [y] by rw [take_snoc Z 0 j hjZ, ← hyy])
                      have e2 : ((p : Int) + (j : Int)).toNat = p + j := by omega
                      clear hyy hjZ
                      go_wp2_with (at_builtin; refine wpList_append_owns _ rfl (.tmp 78) (.tmp 82) 31 rfl w1.heap.size _ 0 5 1 _ (a + j) _ rfl (hO2.alloc _) (by simp; omega) i0 _ 1 Try.underlying31 hi hz0 hz1 hz2 rfl (by omega) rfl _ _ 1 1 _ rfl (reads_new wr 5 1 1 [.int .u8 y] rfl) (by simp [Value.oneCell']) (by simp only [maxLen]; omega) (by omega) ?_; intro v6 w6 hO6 hb6 hsz6)
                      go_roundw
                      case rel =>
                        refine ⟨j + 1, by omega, by go_num, ?_, (hb2.alloc (by omega) _).trans hb6⟩
                        rw [HT.out, ← List.append_assoc]
                        simpa [u8s, Nat.add_assoc] using hO6
                      case measure => simp [intOf]; omega
                    · have hjj : j = Z.length := by rw [HZL.out]; omega
                      subst hjj
                      have HT := hide_ (show Z.take Z.length = Z from List.take_length)
                      rw [HT.out] at hO2
                      go_wp2
                      go_roundw
                      case rel =>
                        refine ⟨m + 1, by omega, by go_num, ?_, hb2⟩
                        rw [HACC.out]
                        simpa [u8s, HA.out] using hO2
                      case measure => simp [intOf]; omega
                · have d0 : (r == 10) = false := by rw [beq_eq_false_iff_ne]; omega
                  have d1 : decide (32 ≤ r) = true := by simp; omega
                  have d2 : decide (r < 127) = false := by simp; omega
                  have d3 : decide (159 < r) = true := by simpa using h
                  clear h
                  go_wp2
                  go_loopw [7, 11] (fun v i wr => ∃ j : Nat, p + j ≤ E ∧ i = .int .i64 (p + j : Nat) ∧ Owns wr w1.heap.size [⟨5, 1, v, a + j, u8s (acc ++ Z.take j)⟩] ∧ Below w1.heap.size w1 wr) (fun _ i _ => E - (intOf i).toNat)
                  case atStart => exact ⟨0, by omega, rfl, by simpa [HA.out] using hO, hb⟩
                  case round =>
                    obtain ⟨j, hj, rfl, hO2, hb2⟩ := hrel
                    obtain ⟨A4, c4, hv4, _, _⟩ := ownsRow_slice (hO2.at_ (i := 0) rfl)
                    simp only at hv4
                    subst hv4
                    have hsz2 := hb2.size
                    by_cases hlt3 : p + j < E
                    · have hbt := get_bt V
                      have hy := HZ.out j (by omega)
                      obtain ⟨y, hyy⟩ : ∃ y, y = Z[j]?.getD 0 := ⟨_, rfl⟩
                      rw [← hyy] at hy
                      have hjZ : j < Z.length := by rw [HZL.out]; omega
                      have HT := hide_ (show Z.take (j + 1) = Z.take j ++ [y] by rw [take_snoc Z 0 j hjZ, ← hyy])
                      have e2 : ((p : Int) + (j : Int)).toNat = p + j := by omega
                      clear hyy hjZ
                      go_wp2_with (at_builtin; refine wpList_append_owns _ rfl (.tmp 78) (.tmp 82) 31 rfl w1.heap.size _ 0 5 1 _ (a + j) _ rfl (hO2.alloc _) (by simp; omega) i0 _ 1 Try.underlying31 hi hz0 hz1 hz2 rfl (by omega) rfl _ _ 1 1 _ rfl (reads_new wr 5 1 1 [.int .u8 y] rfl) (by simp [Value.oneCell']) (by simp only [maxLen]; omega) (by omega) ?_; intro v6 w6 hO6 hb6 hsz6)
                      go_roundw
                      case rel =>
                        refine ⟨j + 1, by omega, by go_num, ?_, (hb2.alloc (by omega) _).trans hb6⟩
                        rw [HT.out, ← List.append_assoc]
                        simpa [u8s, Nat.add_assoc] using hO6
                      case measure => simp [intOf]; omega
                    · have hjj : j = Z.length := by rw [HZL.out]; omega
                      subst hjj
                      have HT := hide_ (show Z.take Z.length = Z from List.take_length)
                      rw [HT.out] at hO2
                      go_wp2
                      go_roundw
                      case rel =>
                        refine ⟨m + 1, by omega, by go_num, ?_, hb2⟩
                        rw [HACC.out]
                        simpa [u8s, HA.out] using hO2
                      case measure => simp [intOf]; omega
            · have hgb1 : guestB (p, r) = [63] := by unfold guestB; rw [if_neg hpz]
              rw [hgb1] at hta
              have HACC := hide_ hta
              have hw3 : (r < 32 ∧ r ≠ 10) ∨ (127 ≤ r ∧ r ≤ 159) := by
                have : ¬ (r = 10 ∨ (32 ≤ r ∧ (r < 127 ∨ 159 < r))) := fun h => hpz (decide_eq_true h)
                omega
              clear hta htb hpz hgb1 hE
              rcases hnext with ⟨g1, hc3⟩ | ⟨g1, hEk⟩
              · rcases hw3 with ⟨h, h'⟩ | ⟨h, h'⟩
                · have d0 : (r == 10) = false := by rw [beq_eq_false_iff_ne]; exact h'
                  have d1 : decide (32 ≤ r) = false := by simp; omega
                  clear h h'
                  go_wp2_with (at_builtin; refine wpList_append_owns _ rfl (.tmp 84) (.tmp 85) 31 rfl w1.heap.size _ 0 5 1 _ a _ rfl (hO.alloc _) (by simp; omega) i0 _ 1 Try.underlying31 hi hz0 hz1 hz2 rfl (by omega) rfl _ _ 1 1 _ rfl (reads_new wr 5 1 1 [.int .u8 63] rfl) (by simp [Value.oneCell']) (by simp only [maxLen]; omega) (by omega) ?_; intro v6 w6 hO6 hb6 hsz6)
                  go_roundw
                  case rel =>
                    refine ⟨m + 1, by omega, by go_num, ?_, (hb.alloc (by omega) _).trans hb6⟩
                    rw [HACC.out]
                    simpa [u8s, HA.out] using hO6
                  case measure => simp [intOf]; omega
                · have d0 : (r == 10) = false := by rw [beq_eq_false_iff_ne]; omega
                  have d1 : decide (32 ≤ r) = true := by simp; omega
                  have d2 : decide (r < 127) = false := by simp; omega
                  have d3 : decide (159 < r) = false := by simp; omega
                  clear h h'
                  go_wp2_with (at_builtin; refine wpList_append_owns _ rfl (.tmp 84) (.tmp 85) 31 rfl w1.heap.size _ 0 5 1 _ a _ rfl (hO.alloc _) (by simp; omega) i0 _ 1 Try.underlying31 hi hz0 hz1 hz2 rfl (by omega) rfl _ _ 1 1 _ rfl (reads_new wr 5 1 1 [.int .u8 63] rfl) (by simp [Value.oneCell']) (by simp only [maxLen]; omega) (by omega) ?_; intro v6 w6 hO6 hb6 hsz6)
                  go_roundw
                  case rel =>
                    refine ⟨m + 1, by omega, by go_num, ?_, (hb.alloc (by omega) _).trans hb6⟩
                    rw [HACC.out]
                    simpa [u8s, HA.out] using hO6
                  case measure => simp [intOf]; omega
              · subst hEk
                rcases hw3 with ⟨h, h'⟩ | ⟨h, h'⟩
                · have d0 : (r == 10) = false := by rw [beq_eq_false_iff_ne]; exact h'
                  have d1 : decide (32 ≤ r) = false := by simp; omega
                  clear h h'
                  go_wp2_with (at_builtin; refine wpList_append_owns _ rfl (.tmp 84) (.tmp 85) 31 rfl w1.heap.size _ 0 5 1 _ a _ rfl (hO.alloc _) (by simp; omega) i0 _ 1 Try.underlying31 hi hz0 hz1 hz2 rfl (by omega) rfl _ _ 1 1 _ rfl (reads_new wr 5 1 1 [.int .u8 63] rfl) (by simp [Value.oneCell']) (by simp only [maxLen]; omega) (by omega) ?_; intro v6 w6 hO6 hb6 hsz6)
                  go_roundw
                  case rel =>
                    refine ⟨m + 1, by omega, by go_num, ?_, (hb.alloc (by omega) _).trans hb6⟩
                    rw [HACC.out]
                    simpa [u8s, HA.out] using hO6
                  case measure => simp [intOf]; omega
                · have d0 : (r == 10) = false := by rw [beq_eq_false_iff_ne]; omega
                  have d1 : decide (32 ≤ r) = true := by simp; omega
                  have d2 : decide (r < 127) = false := by simp; omega
                  have d3 : decide (159 < r) = false := by simp; omega
                  clear h h'
                  go_wp2_with (at_builtin; refine wpList_append_owns _ rfl (.tmp 84) (.tmp 85) 31 rfl w1.heap.size _ 0 5 1 _ a _ rfl (hO.alloc _) (by simp; omega) i0 _ 1 Try.underlying31 hi hz0 hz1 hz2 rfl (by omega) rfl _ _ 1 1 _ rfl (reads_new wr 5 1 1 [.int .u8 63] rfl) (by simp [Value.oneCell']) (by simp only [maxLen]; omega) (by omega) ?_; intro v6 w6 hO6 hb6 hsz6)
                  go_roundw
                  case rel =>
                    refine ⟨m + 1, by omega, by go_num, ?_, (hb.alloc (by omega) _).trans hb6⟩
                    rw [HACC.out]
                    simpa [u8s, HA.out] using hO6
                  case measure => simp [intOf]; omega
          · obtain rfl : m = L := by omega
            have HT := hide_ (show acc = guestL V by rw [hacc, HL.out, List.take_length]; rfl)
            have hcv6 := run_str_of_reads (P := Try.prog) wr _ 31 5 Try.underlying31 Try.underlying5 A0 a c0 acc (Reads.of_own (hO.at_ (i := 0) rfl)) 9 Try.underlying9
            clear hacc haa
            go_wp2
            go_ret
            rw [HT.out]
            exact ⟨rfl, hb1.trans (hb.mono hb1.size)⟩
end Go.Proofs.Ytohpnalklbjkoaa
