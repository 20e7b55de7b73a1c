/-
  The walk of text.say: what a literal says at a place.
-/
import Derived.Test.YtmbofpeedjlfhaaDoorIterB
import Derived.Laws.EntriesVeiled
import Derived.Test.YtmbofpeedjlfhaaDoorEsc
import Derived.Test.YtmbofpeedjlfhaaDoorCode
namespace Go.Proofs.YtmbofpeedjlfhaaDoor
open Go.RowKit Go.PlainAid Go.Shelf
attribute [local go_sem] Oper.semAt_some

theorem RuneLen_any (v : Nat) (w : World) (hr : isRune v) :
    Calls Tryd.prog 69 #[.int .i32 v] w fun e w' => e = .returned (.int .i64 (codeL v).length) ∧ w = w' := by
  obtain ⟨h1, h2⟩ := hr
  obtain ⟨x, hx⟩ : ∃ x : Int, x = (v : Int) := ⟨_, rfl⟩
  rw [← hx]
  rcases (show v < 128 ∨ (128 ≤ v ∧ v < 2048) ∨ (2048 ≤ v ∧ v < 55296) ∨ (57343 < v ∧ v < 65536) ∨ 65536 ≤ v by omega) with a | ⟨a, b⟩ | ⟨a, b⟩ | ⟨a, b⟩ | a
  · rw [show (codeL v).length = 1 by unfold codeL; rw [if_pos a]; rfl]
    have c1 : 0 ≤ x := by omega
    have c2 : x < 128 := by omega
    clear hx h1 h2 a
    go_enter Tryd.func69, Tryd.ntmps69
    go_wp2
    go_ret
    exact ⟨rfl, rfl⟩
  · rw [show (codeL v).length = 2 by unfold codeL; rw [if_neg (by omega), if_pos b]; rfl]
    have c1 : 128 ≤ x := by omega
    have c2 : x < 2048 := by omega
    clear hx h1 h2 a b
    go_enter Tryd.func69, Tryd.ntmps69
    go_wp2
    go_ret
    exact ⟨rfl, rfl⟩
  · rw [show (codeL v).length = 3 by unfold codeL; rw [if_neg (by omega), if_neg (by omega), if_pos (by omega)]; rfl]
    have c1 : 2048 ≤ x := by omega
    have c2 : x < 55296 := by omega
    clear hx h1 h2 a b
    go_enter Tryd.func69, Tryd.ntmps69
    go_wp2
    go_ret
    exact ⟨rfl, rfl⟩
  · rw [show (codeL v).length = 3 by unfold codeL; rw [if_neg (by omega), if_neg (by omega), if_pos b]; rfl]
    have c1 : 57343 < x := by omega
    have c2 : x < 65536 := by omega
    clear hx h1 h2 a b
    go_enter Tryd.func69, Tryd.ntmps69
    go_wp2
    go_ret
    exact ⟨rfl, rfl⟩
  · rw [show (codeL v).length = 4 by unfold codeL; rw [if_neg (by omega), if_neg (by omega), if_neg (by omega)]; rfl]
    have c1 : 65536 ≤ x := by omega
    have c2 : x ≤ 1114111 := by omega
    clear hx h1 h2 a
    go_enter Tryd.func69, Tryd.ntmps69
    go_wp2
    go_ret
    exact ⟨rfl, rfl⟩

/-- what say hands back -/
abbrev SayOut (c : Int) (b : Bool) (k : Nat) (err : Int) (w : World) (e : Ending) (w' : World) : Prop :=
  e = .returned (.tuple #[.agg #[.int .i32 c, .bool b, .int .i64 k], .int .i64 err]) ∧ Below w.heap.size w w'

set_option maxHeartbeats 400000 in
theorem say_ctl (s : ByteArray) (i : Nat) (w : World) (hi : i < s.size) (hc : bt s i < 32 ∨ bt s i = 127) :
    Calls Tryd.prog 42 #[.string s, .int .i64 i] w (SayOut 0 false 0 10 w) := by
  have hbt := get_bt s
  unfold SayOut
  rcases hc with hc | hc
  all_goals
    go_enter Tryd.func42, Tryd.ntmps42
    go_wp2
    refine bodyPost_ret ?_ rfl ⟨rfl, ?_⟩
    · simp [results, Tryd.results42, go_sem]
    · exact (((Below.refl _ w).alloc (Nat.le_refl _) _).alloc (by simp) _)

set_option maxHeartbeats 400000 in
theorem say_esc (s : ByteArray) (i : Nat) (w : World) (hi : i < s.size) (h : bt s i = 92) :
    Calls Tryd.prog 42 #[.string s, .int .i64 i] w fun e w' => ((escN s i = none ∧ SayOut 0 false 0 12 w e w') ∨ ∃ c b, ∃ k : Nat, escN s i = some (c, b, k) ∧ SayOut c b k 0 w e w') := by
  have hbt := get_bt s
  have hx := escN_ext s i (by omega)
  have HX := hide_ hx
  clear hx
  unfold SayOut
  go_enter Tryd.func42, Tryd.ntmps42
  go_wp2_with (go_at_call 68; refine (escape_any _ _).mono ?_; rintro e w' (⟨hn, a, b, c, rfl, rfl⟩ | ⟨c, b, k, hn, rfl, rfl⟩))
  · go_wp2
    refine bodyPost_ret ?_ rfl (.inl ⟨by rw [← HX.out]; exact hn, rfl, ?_⟩)
    · simp [results, Tryd.results42, go_sem]
    · exact ((((Below.refl _ w).alloc (Nat.le_refl _) _).alloc (by simp) _).alloc (by simp; omega) _).alloc (by simp; omega) _
  · go_wp2
    refine bodyPost_ret ?_ rfl (.inr ⟨c, b, k, by rw [← HX.out]; exact hn, rfl, ?_⟩)
    · simp [results, Tryd.results42, go_sem]
    · exact ((((Below.refl _ w).alloc (Nat.le_refl _) _).alloc (by simp) _).alloc (by simp; omega) _).alloc (by simp; omega) _

theorem ownFrom_ex {α β : Type} {B : Nat} {I : α → β → World → Prop} (h : ∀ x, OwnFrom B (I x)) : OwnFrom B (fun s W => ∃ x, I x s W) := fun s W W' row hs hg hr => by
  obtain ⟨x, hx⟩ := hs
  exact ⟨x, h x s W W' row hx hg hr⟩
/-- what a rune that is told makes of a place of a literal -/
def sayR (r : Int) : Int × Nat × Int := if r < 0 then (0, 0, 13) else (r, (codeL r.toNat).length, 0)
def sayBox (r : Int) : Array Value := #[.int .i32 (sayR r).1, .bool false, .int .i64 ((sayR r).2.1 : Nat)]

theorem say_store {W : World} {b : Nat} {T T' : TypeId} {x0 x1 x2 y : Value} (c4 : Blk W b T #[x0, x1, x2]) (c5 : Blk W (b + 1) T' #[y]) (u0 u1 u2 v : Value) :
    Blk ((((W.setCell ⟨b, 0, none⟩ u0).setCell ⟨b, 1, none⟩ u1).setCell ⟨b, 2, none⟩ u2).setCell ⟨b + 1, 0, none⟩ v) b T #[u0, u1, u2] ∧
    Blk ((((W.setCell ⟨b, 0, none⟩ u0).setCell ⟨b, 1, none⟩ u1).setCell ⟨b, 2, none⟩ u2).setCell ⟨b + 1, 0, none⟩ v) (b + 1) T' #[v] :=
  ⟨(((c4.set_ 0 u0).set_ 1 u1).set_ 2 u2).far (by dsimp only; omega) v, (((c5.far (p := ⟨b, 0, none⟩) (by dsimp only; omega) u0).far (p := ⟨b, 1, none⟩) (by dsimp only; omega) u1).far (p := ⟨b, 2, none⟩) (by dsimp only; omega) u2).set_ 0 v⟩
theorem say_keeps (W : World) (b B : Nat) (u0 u1 u2 v : Value) : KeepsFrom B W ((((W.setCell ⟨b, 0, none⟩ u0).setCell ⟨b, 1, none⟩ u1).setCell ⟨b, 2, none⟩ u2).setCell ⟨b + 1, 0, none⟩ v) :=
  ((((KeepsOthers.setCell W _ _).trans (KeepsOthers.setCell _ _ _)).trans (KeepsOthers.setCell _ _ _)).trans (KeepsOthers.setCell _ _ _)).from B
theorem say_below {w W : World} (h : Below w.heap.size w W) (u0 u1 u2 v : Value) : Below w.heap.size w ((((W.setCell ⟨w.heap.size, 0, none⟩ u0).setCell ⟨w.heap.size, 1, none⟩ u1).setCell ⟨w.heap.size, 2, none⟩ u2).setCell ⟨w.heap.size + 1, 0, none⟩ v) :=
  (((h.setCell (p := ⟨w.heap.size, 0, none⟩) (by dsimp only; omega) _).setCell (p := ⟨w.heap.size, 1, none⟩) (by dsimp only; omega) _).setCell (p := ⟨w.heap.size, 2, none⟩) (by dsimp only; omega) _).setCell (p := ⟨w.heap.size + 1, 0, none⟩) (by dsimp only; omega) _

set_option maxRecDepth 100000 in
set_option maxHeartbeats 1000000 in
theorem say_run (s : ByteArray) (i : Nat) (w : World) (hi : i < s.size) (h : bt s i ≠ 92) (h1 : 32 ≤ bt s i) (h2 : bt s i ≠ 127) :
    Calls Tryd.prog 42 #[.string s, .int .i64 i] w (SayOut (sayR (cutR s i)).1 false (sayR (cutR s i)).2.1 (sayR (cutR s i)).2.2 w) := by
  have hbt := get_bt s
  have g1 : decide (bt s i < 32) = false := by simp; omega
  have g2 : (bt s i == 127) = false := by rw [beq_eq_false_iff_ne]; exact h2
  have g3 : (bt s i == 92) = false := by rw [beq_eq_false_iff_ne]; exact h
  clear h h1 h2
  have HR := hide_ (cutR_ext s i 0 (by omega))
  have HT := hide_ (size_ext s i)
  refine (callsIn_wide (n := 30)).1 ?_
  refine callsIn_of_wp_marks Tryd.func42 rfl trivial ?_ rfl
  simp only [Tryd.ntmps42, List.size_toArray, List.length_cons, List.length_nil, Nat.reduceAdd, Nat.reduceSub, Array.replicate_succ, Array.replicate_zero, List.push_toArray, List.append_toArray, List.nil_append, List.cons_append]
  gi_wp2_with fail
  refine ⟨trivial, ?_⟩
  refine (callsIn_wide.2 (cutting_any (s.extract i s.size) _)).mono ?_
  rintro e w2 ⟨rfl, rfl⟩
  gi_wp2_with fail
  obtain ⟨t, ht⟩ : ∃ t, t = s.extract i s.size := ⟨_, rfl⟩
  rw [← ht] at HR HT ⊢
  have hts : 0 < t.size := by rw [HT.out]; omega
  have b4 := (((Blk.new w 79 #[.int .i32 0, .bool false, .int .i64 0]).alloc (.cells #[.int .i64 0] 25)).alloc (.cells #[.string t] 9))
  have b5 := ((Blk.new (w.alloc (.cells #[.int .i32 0, .bool false, .int .i64 0] 79)) 25 #[.int .i64 0]).alloc (.cells #[.string t] 9))
  have b6 := Boxed.new ((w.alloc (.cells #[.int .i32 0, .bool false, .int .i64 0] 79)).alloc (.cells #[.int .i64 0] 25)) 9 (.string t)
  simp only [World.size_alloc] at b5 b6
  have hB3 : Below w.heap.size w (((w.alloc (.cells #[.int .i32 0, .bool false, .int .i64 0] 79)).alloc (.cells #[.int .i64 0] 25)).alloc (.cells #[.string t] 9)) := ((((Below.refl _ w).alloc (Nat.le_refl _) _).alloc (by simp) _).alloc (by simp; omega) _)
  have hsz : (((w.alloc (.cells #[.int .i32 0, .bool false, .int .i64 0] 79)).alloc (.cells #[.int .i64 0] 25)).alloc (.cells #[.string t] 9)).heap.size = w.heap.size + 1 + 1 + 1 := by simp
  obtain ⟨w3, hw3⟩ : ∃ w3, ((w.alloc (.cells #[.int .i32 0, .bool false, .int .i64 0] 79)).alloc (.cells #[.int .i64 0] 25)).alloc (.cells #[.string t] 9) = w3 := ⟨_, rfl⟩
  rw [hw3] at b4 b5 b6 hB3 hsz ⊢
  clear hw3
  have HSZ := hide_ hsz
  have hnb : w.heap.size + 1 + 1 < w3.heap.size := by omega
  clear hsz
  refine rangeB (Bn := w.heap.size + 1 + 1) (s := t) (P' := 40) (Q' := 9) (by omega) rfl (by omega) b6.cell
    (fun pre W => pre = [] ∧ (W.heap[w.heap.size]? = some (.cells #[.int .i32 0, .bool false, .int .i64 0] 79 (0, 0)) ∧ (W.heap[w.heap.size + 1]? = some (.cells #[.int .i64 0] 25 (0, 0)) ∧ Below w.heap.size w W)))
    (fun c pre W => ∃ x : Nat × Int, (c = .ret ∧ pre = [x]) ∧ (W.heap[w.heap.size]? = some (.cells (sayBox x.2) 79 (0, 0)) ∧ (W.heap[w.heap.size + 1]? = some (.cells #[.int .i64 (sayR x.2).2.2] 25 (0, 0)) ∧ Below w.heap.size w W)))
    (OwnFrom.and (ownFrom_pure _ _) (OwnFrom.and (ownFrom_obj (by omega)) (OwnFrom.and (ownFrom_obj (by omega)) (ownFrom_below (Nat.le_refl _) (by omega)))))
    (fun c => ownFrom_ex fun x => OwnFrom.and (ownFrom_pure _ (fun pre => c = .ret ∧ pre = [x])) (OwnFrom.and (ownFrom_obj (by omega)) (OwnFrom.and (ownFrom_obj (by omega)) (ownFrom_below (Nat.le_refl _) (by omega)))))
    ⟨rfl, b4, b5, hB3⟩ ?assign1 ?body1 ?done1 ?stop1
  case assign1 =>
    intro l x W K hK
    simp only [updA, List.setIfInBounds_toArray, List.set_cons_succ, List.set_cons_zero] at hK ⊢
    gi_wp2
    exact hK
  case done1 =>
    rintro D W hD ⟨hnil, _⟩ hk
    exfalso
    rw [cuts_at, cutsAt_lt t 0 hts] at hnil
    cases hnil
  case stop1 =>
    rintro D c pre W hD hS ⟨x, ⟨rfl, rfl⟩, c4, c5, hBW⟩ hk
    have hx : x = (0, cutR t 0) := by
      rw [cuts_at, cutsAt_lt t 0 hts] at hS
      obtain ⟨suf, hsuf⟩ := hS
      simp only [List.cons_append, List.nil_append, List.cons.injEq] at hsuf
      exact hsuf.1
    subst hx
    simp only [HR.out, Nat.add_zero] at c4 c5
    have B4 : Blk W w.heap.size 79 _ := c4
    have B5 : Blk W (w.heap.size + 1) 25 _ := c5
    have D4 : Blk (W.putObj D (.deferred none)) w.heap.size 79 _ := (putObj_heap_ne (by omega)).trans B4
    have D5 : Blk (W.putObj D (.deferred none)) (w.heap.size + 1) 25 _ := (putObj_heap_ne (by omega)).trans B5
    have k0 : (W.putObj D (.deferred none)).cell? ⟨w.heap.size, 0, none⟩ = some (.int .i32 (sayR (cutR s i)).1) := D4.cell 0
    have k1 : (W.putObj D (.deferred none)).cell? ⟨w.heap.size, 1, none⟩ = some (.bool false) := D4.cell 1
    have k2 : (W.putObj D (.deferred none)).cell? ⟨w.heap.size, 2, none⟩ = some (.int .i64 ((sayR (cutR s i)).2.1 : Nat)) := D4.cell 2
    have k3 : (W.putObj D (.deferred none)).cell? ⟨w.heap.size + 1, 0, none⟩ = some (.int .i64 (sayR (cutR s i)).2.2) := D5.cell 0
    clear D4 D5 B4 B5 c4 c5
    gi_wp2
    refine ⟨by simp, .inl ⟨_, _, rfl, run_takeDeferred hk, ?_⟩⟩
    exact ⟨.tuple #[.agg #[.int .i32 (sayR (cutR s i)).1, .bool false, .int .i64 ((sayR (cutR s i)).2.1 : Nat)], .int .i64 (sayR (cutR s i)).2.2], by simp [results, Tryd.results42, go_sem, k0, k1, k2, k3], rfl, hBW.trans (belowK_b (n₀ := w.heap.size) (w := w) (Nat.le_refl _) _ D _ _ (by omega) hk rfl rfl)⟩
  case body1 =>
    rintro l pre ⟨p, r⟩ W hmem hl hr ⟨rfl, c4, c5, hBW⟩ hlen
    simp only [updA, List.setIfInBounds_toArray, List.set_cons_succ, List.set_cons_zero]
    obtain ⟨hpl, hrr⟩ := cuts_mem t _ hmem
    simp only at hpl hrr
    have B4 : Blk W w.heap.size 79 #[.int .i32 0, .bool false, .int .i64 0] := c4
    have B5 : Blk W (w.heap.size + 1) 25 #[.int .i64 0] := c5
    have k0 : W.cell? ⟨w.heap.size, 0, none⟩ = some (.int .i32 0) := B4.cell 0
    have k1 : W.cell? ⟨w.heap.size, 1, none⟩ = some (.bool false) := B4.cell 1
    have k2 : W.cell? ⟨w.heap.size, 2, none⟩ = some (.int .i64 0) := B4.cell 2
    have k3 : W.cell? ⟨w.heap.size + 1, 0, none⟩ = some (.int .i64 0) := B5.cell 0
    have f0 := B4.frozen 0
    have f1 := B4.frozen 1
    have f2 := B4.frozen 2
    have f3 := B5.frozen 0
    have l4 := B4.lt
    have l5 := B5.lt
    have H4 := hide_ B4
    have H5 := hide_ B5
    have HM := hide_ hmem
    clear B4 B5 hmem c4 c5 hlen
    by_cases hlo : lost t p
    · have hneg : decide (r < 0) = true := by rw [hrr]; unfold cutR; rw [if_pos hlo]; simp; omega
      have HRR := hide_ hrr
      clear hrr
      gi_wp2
      have hs := say_store H4.out H5.out (.int .i32 0) (.bool false) (.int .i64 0) (.int .i64 13)
      have hr0 : sayR r = (0, 0, 13) := by unfold sayR; rw [if_pos (by simpa using hneg)]
      refine ⟨say_keeps _ _ _ _ _ _ _, (p, r), ⟨rfl, rfl⟩, ?_, ?_, say_below hBW _ _ _ _⟩
      · simp only [sayBox, hr0]; exact hs.1
      · simp only [hr0]; exact hs.2
    · obtain ⟨hisr, hmat, hcn⟩ := cut_code t p hpl hlo
      obtain ⟨v, hv⟩ : ∃ v, v = (Utf8.decode t p).1 := ⟨_, rfl⟩
      rw [← hv] at hisr hmat hcn
      have hrb : r = (v : Int) := by rw [hrr, cutR, if_neg hlo, hv]
      subst hrb
      have hneg : decide ((v : Int) < 0) = false := by simp
      have HI := hide_ hisr
      clear hrr hmat hcn hv hisr
      gi_wp2_with fail
      refine ⟨trivial, ?_⟩
      refine (CallsIn.inRound l (callsIn_wide.2 (RuneLen_any v _ HI.out))).mono ?_
      rintro e w4 ⟨rfl, rfl⟩
      gi_wp2
      have hs := say_store H4.out H5.out (.int .i32 v) (.bool false) (.int .i64 (codeL v).length) (.int .i64 0)
      have hr0 : sayR (v : Int) = ((v : Int), (codeL v).length, (0 : Int)) := by unfold sayR; rw [if_neg (by omega), Int.toNat_natCast]
      refine ⟨say_keeps _ _ _ _ _ _ _, (p, v), ⟨rfl, rfl⟩, ?_, ?_, say_below hBW _ _ _ _⟩
      · simp only [sayBox, hr0]; exact hs.1
      · simp only [hr0]; exact hs.2

theorem sayR_lost (s : ByteArray) (i : Nat) (h : lost s i) : sayR (cutR s i) = (0, 0, 13) := by unfold sayR cutR; rw [if_pos h, if_pos (by omega)]
theorem sayR_rune (s : ByteArray) (i : Nat) (hi : i < s.size) (h : ¬ lost s i) : sayR (cutR s i) = (((Utf8.decode s i).1 : Int), cutN s i, (0 : Int)) := by
  unfold sayR cutR
  rw [if_neg h, if_neg (by omega), Int.toNat_natCast, (cut_code s i hi h).2.2]
/-- text.say, at every place of every text -/
theorem say_any (s : ByteArray) (i : Nat) (w : World) (hi : i < s.size) :
    Calls Tryd.prog 42 #[.string s, .int .i64 i] w (SayOut (sayN s i).1 (sayN s i).2.1 (sayN s i).2.2.1 (sayN s i).2.2.2 w) := by
  have hb := bt_eq s i hi
  by_cases h : bn s i = 92
  · refine (say_esc s i w hi (by omega)).mono fun e w' ho => ?_
    rcases ho with ⟨hn, ho⟩ | ⟨c, b, k, hn, ho⟩
    · have e0 : sayN s i = (0, false, 0, 12) := by unfold sayN; rw [if_pos h, hn]
      rw [e0]; exact ho
    · have e0 : sayN s i = (c, b, k, 0) := by unfold sayN; rw [if_pos h, hn]
      rw [e0]; exact ho
  by_cases hc : bn s i < 32 ∨ bn s i = 127
  · have e0 : sayN s i = (0, false, 0, 10) := by unfold sayN; rw [if_neg h, if_pos hc]
    rw [e0]
    exact say_ctl s i w hi (by omega)
  have hr := say_run s i w hi (by omega) (by omega) (by omega)
  by_cases hl : lost s i
  · have e0 : sayN s i = (0, false, 0, 13) := by unfold sayN; rw [if_neg h, if_neg hc, if_pos hl]
    rw [e0]
    rw [sayR_lost s i hl] at hr
    exact hr
  · have e0 : sayN s i = (((Utf8.decode s i).1 : Int), false, cutN s i, 0) := by unfold sayN; rw [if_neg h, if_neg hc, if_neg hl]
    rw [e0]
    rw [sayR_rune s i hi hl] at hr
    exact hr
end Go.Proofs.YtmbofpeedjlfhaaDoor
