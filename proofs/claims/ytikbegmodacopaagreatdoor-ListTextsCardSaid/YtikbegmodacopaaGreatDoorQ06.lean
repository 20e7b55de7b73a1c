/-
  Joined and packed by program.
-/
import Derived.Test.YtikbegmodacopaaGreatDoorQ02
import Derived.Test.YtikbegmodacopaaGreatDoorQ04
import Derived.Test.YtikbegmodacopaaGreatDoorQ01
import Derived.Test.YtikbegmodacopaaGreatDoorQ05
import Derived.Test.YtikbegmodacopaaGreatDoorProg
import Derived.Shelf.Strings.BuilderK
import Derived.PlainAid
namespace Go.Proofs.YtikbegmodacopaaGreatDoor
set_option maxRecDepth 100000
open Go.RowKit Go.PlainAid
theorem bt_bn (s:ByteArray) (k:Nat):bt s k=(bn s k:Int):=by
 by_cases h:k<s.size
 ·exact bt_eq s k h
 ·rw [bt_end s (by omega)]
  have:s.get! k=0:=by
   cases s with
   | mk d =>
    show d[k]! = 0
    have hk:¬ k<d.size:=h
    rw [getElem!_neg d k hk]
    rfl
  unfold bn
  rw [this]
  rfl
def raR (s:ByteArray) (i:Nat):Int:=if lost s i then 0 else ((Utf8.decode s i).1:Int)
def raN (s:ByteArray) (i:Nat):Int:=if lost s i then 0 else ((Utf8.decode s i).2:Int)
theorem ra_zero {s:ByteArray} {i:Nat} {w:World} (h:Lib.decodeN (s.size - i) (bn s i) (bn s (i+1)) (bn s (i+2)) (bn s (i+3))=(65533,1)) (hr:RaIs s i 0 0 w):RaIs s i (raR s i) (raN s i) w:=by
 have hd:Utf8.decode s i=(65533,1):=(Lib.decode_at s i).trans h
 have hl:lost s i:=by unfold lost;rw [hd];exact ⟨rfl,rfl⟩
 unfold raR raN
 rw [if_pos hl,if_pos hl]
 exact hr
theorem ra_val {s:ByteArray} {i c m:Nat} {w:World} (h:Lib.decodeN (s.size - i) (bn s i) (bn s (i+1)) (bn s (i+2)) (bn s (i+3))=(c,m)) (hm:¬ (c=65533∧m=1)) {r n:Int} (hr:RaIs s i r n w) (er:r=c) (en:n=m):RaIs s i (raR s i) (raN s i) w:=by
 have hd:Utf8.decode s i=(c,m):=(Lib.decode_at s i).trans h
 have hl:¬ lost s i:=by unfold lost;rw [hd];exact hm
 unfold raR raN
 rw [if_neg hl,if_neg hl,hd,← er,← en]
 exact hr
theorem runeAt_any (s:ByteArray) (i:Nat) (w:World) (hz:s.size≤9223372036854775800) (hi:i<s.size):RaIs s i (raR s i) (raN s i) w:=by
 have e0:=bt_bn s i
 have e1:=bt_bn s (i+1)
 have e2:=bt_bn s (i+2)
 have e3:=bt_bn s (i+3)
 have g0:=bn_lt s i
 have g1:=bn_lt s (i+1)
 have g2:=bn_lt s (i+2)
 have g3:=bn_lt s (i+3)
 by_cases c1:bn s i<128
 ·exact ra_val (c:=bn s i) (m:=1) (by unfold Lib.decodeN;rw [if_pos c1]) (by omega) (ra_ascii s i w hz hi (by omega)) (by omega) rfl
 by_cases c2:bn s i<192
 ·exact ra_zero (dz1 _ _ _ _ _ (by omega) g0) (ra_cont s i w hz hi (by omega) (by omega))
 by_cases c3:bn s i<224
 ·by_cases hs:s.size<i+2
  ·exact ra_zero (dz2 _ _ _ _ _ g1 (by omega) (by omega)) (ra2_short s i w hz hi (by omega) (by omega) (by omega))
  by_cases a1:bn s (i+1)<128
  ·exact ra_zero (dz2 _ _ _ _ _ g1 (by omega) (by omega)) (ra2_lo1 s i w hz hi (by omega) (by omega) (by omega) (by omega))
  by_cases a2:191<bn s (i+1)
  ·exact ra_zero (dz2 _ _ _ _ _ g1 (by omega) (by omega)) (ra2_hi1 s i w hz hi (by omega) (by omega) (by omega) (by omega))
  by_cases a3:(bt s i - 192) * 64+bt s (i+1) - 128<128
  ·exact ra_zero (dz2 _ _ _ _ _ g1 (by omega) (by omega)) (ra2_least s i w hz hi (by omega) (by omega) (by omega) (by omega) (by omega) (by omega))
  ·exact ra_val (dv2 _ _ _ _ _ (by omega) (by omega)) (by omega) (ra2_ok s i w hz hi (by omega) (by omega) (by omega) (by omega) (by omega) (by omega)) (by omega) rfl
 by_cases c4:bn s i<240
 ·by_cases hs:s.size<i+3
  ·exact ra_zero (dz3 _ _ _ _ _ g1 g2 (by omega) (by omega)) (ra3_short s i w hz hi (by omega) (by omega) (by omega))
  by_cases a1:bn s (i+1)<128
  ·exact ra_zero (dz3 _ _ _ _ _ g1 g2 (by omega) (by omega)) (ra3_lo1 s i w hz hi (by omega) (by omega) (by omega) (by omega))
  by_cases a2:191<bn s (i+1)
  ·exact ra_zero (dz3 _ _ _ _ _ g1 g2 (by omega) (by omega)) (ra3_hi1 s i w hz hi (by omega) (by omega) (by omega) (by omega))
  by_cases a3:bn s (i+2)<128
  ·exact ra_zero (dz3 _ _ _ _ _ g1 g2 (by omega) (by omega)) (ra3_lo2 s i w hz hi (by omega) (by omega) (by omega) (by omega) (by omega) (by omega))
  by_cases a4:191<bn s (i+2)
  ·exact ra_zero (dz3 _ _ _ _ _ g1 g2 (by omega) (by omega)) (ra3_hi2 s i w hz hi (by omega) (by omega) (by omega) (by omega) (by omega) (by omega))
  by_cases a5:((bt s i - 224) * 64+bt s (i+1) - 128) * 64+bt s (i+2) - 128<2048
  ·exact ra_zero (dz3 _ _ _ _ _ g1 g2 (by omega) (by omega)) (ra3_least s i w hz hi (by omega) (by omega) (by omega) (by omega) (by omega) (by omega) (by omega) (by omega))
  by_cases a6:((bt s i - 224) * 64+bt s (i+1) - 128) * 64+bt s (i+2) - 128<55296
  ·exact ra_val (dv3 _ _ _ _ _ (by omega) (by omega)) (by omega) (ra3_ok1 s i w hz hi (by omega) (by omega) (by omega) (by omega) (by omega) (by omega) (by omega) (by omega) (by omega)) (by omega) rfl
  by_cases a7:((bt s i - 224) * 64+bt s (i+1) - 128) * 64+bt s (i+2) - 128≤57343
  ·exact ra_zero (dz3 _ _ _ _ _ g1 g2 (by omega) (by omega)) (ra3_sur s i w hz hi (by omega) (by omega) (by omega) (by omega) (by omega) (by omega) (by omega) (by omega) (by omega))
  ·exact ra_val (dv3 _ _ _ _ _ (by omega) (by omega)) (by omega) (ra3_ok2 s i w hz hi (by omega) (by omega) (by omega) (by omega) (by omega) (by omega) (by omega) (by omega)) (by omega) rfl
 by_cases c5:bn s i<248
 ·by_cases hs:s.size<i+4
  ·exact ra_zero (dz4 _ _ _ _ _ g1 g2 g3 (by omega) (by omega)) (ra4_short s i w hz hi (by omega) (by omega) (by omega))
  by_cases a1:bn s (i+1)<128
  ·exact ra_zero (dz4 _ _ _ _ _ g1 g2 g3 (by omega) (by omega)) (ra4_lo1 s i w hz hi (by omega) (by omega) (by omega) (by omega))
  by_cases a2:191<bn s (i+1)
  ·exact ra_zero (dz4 _ _ _ _ _ g1 g2 g3 (by omega) (by omega)) (ra4_hi1 s i w hz hi (by omega) (by omega) (by omega) (by omega))
  by_cases a3:bn s (i+2)<128
  ·exact ra_zero (dz4 _ _ _ _ _ g1 g2 g3 (by omega) (by omega)) (ra4_lo2 s i w hz hi (by omega) (by omega) (by omega) (by omega) (by omega) (by omega))
  by_cases a4:191<bn s (i+2)
  ·exact ra_zero (dz4 _ _ _ _ _ g1 g2 g3 (by omega) (by omega)) (ra4_hi2 s i w hz hi (by omega) (by omega) (by omega) (by omega) (by omega) (by omega))
  by_cases a5:bn s (i+3)<128
  ·exact ra_zero (dz4 _ _ _ _ _ g1 g2 g3 (by omega) (by omega)) (ra4_lo3 s i w hz hi (by omega) (by omega) (by omega) (by omega) (by omega) (by omega) (by omega) (by omega))
  by_cases a6:191<bn s (i+3)
  ·exact ra_zero (dz4 _ _ _ _ _ g1 g2 g3 (by omega) (by omega)) (ra4_hi3 s i w hz hi (by omega) (by omega) (by omega) (by omega) (by omega) (by omega) (by omega) (by omega))
  by_cases a7:(((bt s i - 240) * 64+bt s (i+1) - 128) * 64+bt s (i+2) - 128) * 64+bt s (i+3) - 128<65536
  ·exact ra_zero (dz4 _ _ _ _ _ g1 g2 g3 (by omega) (by omega)) (ra4_least s i w hz hi (by omega) (by omega) (by omega) (by omega) (by omega) (by omega) (by omega) (by omega) (by omega) (by omega))
  by_cases a8:1114111<(((bt s i - 240) * 64+bt s (i+1) - 128) * 64+bt s (i+2) - 128) * 64+bt s (i+3) - 128
  ·exact ra_zero (dz4 _ _ _ _ _ g1 g2 g3 (by omega) (by omega)) (ra4_most s i w hz hi (by omega) (by omega) (by omega) (by omega) (by omega) (by omega) (by omega) (by omega) (by omega) (by omega))
  ·exact ra_val (dv4 _ _ _ _ _ (by omega) (by omega)) (by omega) (ra4_ok s i w hz hi (by omega) (by omega) (by omega) (by omega) (by omega) (by omega) (by omega) (by omega) (by omega) (by omega) (by omega)) (by omega) rfl
 ·exact ra_zero (dz1 _ _ _ _ _ (by omega) g0) (ra_high s i w hz hi (by omega))
end Go.Proofs.YtikbegmodacopaaGreatDoor
namespace Go.Proofs.YtikbegmodacopaaGreatDoor
set_option maxRecDepth 100000
open Go.RowKit Go.PlainAid
theorem runeAt_lost (s:ByteArray) (i:Nat) (w:World) (hz:s.size≤9223372036854775800) (hi:i<s.size) (hl:lost s i) :
  Calls Tryz.prog 192 #[.string s,.int .i64 i] w fun e w'=>e=.returned (.tuple #[.int .i32 0,.int .i64 0])∧w=w':=by
 have:=runeAt_any s i w hz hi
 unfold RaIs raR raN at this
 rwa [if_pos hl,if_pos hl] at this
theorem runeAt_found (s:ByteArray) (i:Nat) (w:World) (hz:s.size≤9223372036854775800) (hi:i<s.size) (hl:¬ lost s i) :
  Calls Tryz.prog 192 #[.string s,.int .i64 i] w fun e w'=>e=.returned (.tuple #[.int .i32 (cutR s i),.int .i64 (cutN s i:Nat)])∧w=w':=by
 have:=runeAt_any s i w hz hi
 unfold RaIs raR raN at this
 rw [if_neg hl,if_neg hl] at this
 unfold cutR cutN
 rwa [if_neg hl]
end Go.Proofs.YtikbegmodacopaaGreatDoor
namespace Go.Proofs.YtikbegmodacopaaGreatDoor
set_option maxRecDepth 100000
open Go.RowKit Go.PlainAid
def sayB (s:ByteArray) (i:Nat):List Nat:=escB (sayN s i).1 (sayN s i).2.1
theorem matches_text (s:ByteArray) (i v:Nat) (hm:Matches s i v):IsText (s.extract i (i+(codeL v).length)) (codeL v):=by
 obtain ⟨h1,h2⟩:=hm
 have hsz:(s.extract i (i+(codeL v).length)).size=(codeL v).length:=by rw [ByteArray.size_extract];omega
 refine ⟨hsz,fun k hk=>?_⟩
 rw [← h2 k hk,← bn_eq _ _ (by rw [hsz];exact hk),← bn_eq s _ (by omega),ByteArray.getElem_extract]
set_option maxHeartbeats 1000000 in
theorem thing_shut (s:ByteArray) (i:Nat) (q:Int) (w:World) (hz:s.size≤1152921504606846976) (hi:i<s.size) (h:bt s i=q) :
  Calls Tryz.prog 221 #[.string s,.int .i64 i,.int .u8 q] w (ThingIs ⟨#[]⟩ 0 (i+1) true 0 w):=by
 have hbt:=get_bt s
 have h':(bt s i == q)=true:=by rw [beq_iff_eq];exact h
 clear h
 go_enter Tryz.func221,Tryz.ntmps221
 go_wp2
 refine bodyPost_ret ?_ rfl ⟨rfl,?_⟩
 ·simp [results,Tryz.results221,go_sem]
 ·exact Below.refl _ _
set_option maxHeartbeats 1000000 in
theorem thing_ctl (s:ByteArray) (i:Nat) (q:Int) (w:World) (hi:i<s.size) (h:bt s i≠q) (h92:bt s i≠92) (hc:bt s i<32∨bt s i=127) :
  Calls Tryz.prog 221 #[.string s,.int .i64 i,.int .u8 q] w (ThingIs ⟨#[]⟩ 0 i false 10 w):=by
 have hbt:=get_bt s
 have h':(bt s i == q)=false:=by rw [beq_eq_false_iff_ne];exact h
 have g3:(bt s i == 92)=false:=by rw [beq_eq_false_iff_ne];exact h92
 have g4:(decide (bt s i<32) || (bt s i == 127))=true:=by simpa using hc
 obtain ⟨b,hb⟩:∃ b,b=bt s i:=⟨_,rfl⟩
 rcases hc with hc | hc
 ·have g1:decide (bt s i<32)=true:=by simpa using hc
  clear h h92 hc g4
  go_enter Tryz.func221,Tryz.ntmps221
  go_wp2
  refine bodyPost_ret ?_ rfl ⟨rfl,?_⟩
  ·simp [results,Tryz.results221,go_sem]
  ·exact Below.refl _ _
 ·have g1:decide (bt s i<32)=false:=by simp;omega
  have g2:(bt s i == 127)=true:=by rw [beq_iff_eq];exact hc
  clear h h92 hc g4
  go_enter Tryz.func221,Tryz.ntmps221
  go_wp2
  refine bodyPost_ret ?_ rfl ⟨rfl,?_⟩
  ·simp [results,Tryz.results221,go_sem]
  ·exact Below.refl _ _
set_option maxHeartbeats 1000000 in
theorem thing_esc (s:ByteArray) (i:Nat) (q:Int) (w:World) (hz:s.size≤1152921504606846976) (hi:i<s.size) (h:bt s i≠q) (h92:bt s i=92) :
  Calls Tryz.prog 221 #[.string s,.int .i64 i,.int .u8 q] w fun e w'=>((escN s i=none∧ThingIs ⟨#[]⟩ 0 i false 12 w e w')∨∃ c b,∃ k:Nat,escN s i=some (c,b,k)∧ThingIs (textOf (escB c b)) c ((i+k:Nat):Int) false 0 w e w'):=by
 have hbt:=get_bt s
 have h':((92:Int) == q)=false:=by rw [beq_eq_false_iff_ne,← h92];exact h
 clear h
 go_enter Tryz.func221,Tryz.ntmps221
 go_wp2_with (go_at_call 228;refine (rescape_any s i _ hz hi).mono ?_;rintro e w' (⟨hn,rfl,hb⟩ | ⟨c,b,k,hn,rfl,hb⟩))
 ·go_wp2
  refine bodyPost_ret ?_ rfl (.inl ⟨hn,rfl,hb⟩)
  simp [results,Tryz.results221,go_sem]
 ·go_wp2
  refine bodyPost_ret ?_ rfl (.inr ⟨c,b,k,hn,rfl,hb⟩)
  simp [results,Tryz.results221,go_sem]
set_option maxHeartbeats 1000000 in
theorem thing_lost (s:ByteArray) (i:Nat) (q:Int) (w:World) (hz:s.size≤1152921504606846976) (hi:i<s.size) (h:bt s i≠q) (h92:bt s i≠92) (h1:32≤bt s i) (h2:bt s i≠127) (hl:lost s i) :
  Calls Tryz.prog 221 #[.string s,.int .i64 i,.int .u8 q] w (ThingIs ⟨#[]⟩ 0 i false 13 w):=by
 have hbt:=get_bt s
 have h':(bt s i == q)=false:=by rw [beq_eq_false_iff_ne];exact h
 have g3:(bt s i == 92)=false:=by rw [beq_eq_false_iff_ne];exact h92
 have g1:decide (bt s i<32)=false:=by simp;omega
 have g2:(bt s i == 127)=false:=by rw [beq_eq_false_iff_ne];exact h2
 clear h h92 h1 h2
 have HL:=hide_ hl
 clear hl
 go_enter Tryz.func221,Tryz.ntmps221
 go_wp2_with (go_at_call 192;refine (runeAt_lost s i _ (by omega) hi HL.out).mono ?_;rintro e w' ⟨rfl,rfl⟩)
 refine bodyPost_ret ?_ rfl ⟨rfl,?_⟩
 ·simp [results,Tryz.results221,go_sem]
 ·exact Below.refl _ _
set_option maxHeartbeats 1000000 in
theorem thing_rune (s:ByteArray) (i:Nat) (q:Int) (w:World) (hz:s.size≤1152921504606846976) (hi:i<s.size) (h:bt s i≠q) (h92:bt s i≠92) (h1:32≤bt s i) (h2:bt s i≠127) (hl:¬ lost s i) :
  Calls Tryz.prog 221 #[.string s,.int .i64 i,.int .u8 q] w (ThingIs (s.extract i (i+cutN s i)) (cutR s i) ((i+cutN s i:Nat):Int) false 0 w):=by
 have hbt:=get_bt s
 have h':(bt s i == q)=false:=by rw [beq_eq_false_iff_ne];exact h
 have g3:(bt s i == 92)=false:=by rw [beq_eq_false_iff_ne];exact h92
 have g1:decide (bt s i<32)=false:=by simp;omega
 have g2:(bt s i == 127)=false:=by rw [beq_eq_false_iff_ne];exact h2
 clear h h92 h1 h2
 have HL:=hide_ hl
 clear hl
 have hcall:=fun W=>runeAt_found s i W (by omega) hi HL.out
 have hN0:=cutN_pos s i
 have hN1:=cutN_fits s i hi
 obtain ⟨n,hn⟩:∃ n,n=cutN s i:=⟨_,rfl⟩
 obtain ⟨r,hr⟩:∃ r,r=cutR s i:=⟨_,rfl⟩
 simp only [← hn,← hr] at hcall
 rw [← hn] at hN0 hN1 ⊢
 rw [← hr]
 have HCALL:=hide_ hcall
 clear hcall hn hr
 have g4:((n:Int) == 0)=false:=by rw [beq_eq_false_iff_ne];omega
 go_enter Tryz.func221,Tryz.ntmps221
 go_wp2_with (go_at_call 192;refine (HCALL.out _).mono ?_;rintro e w' ⟨rfl,rfl⟩)
 refine bodyPost_ret ?_ rfl ⟨rfl,?_⟩
 ·simp [results,Tryz.results221,go_sem]
 ·exact Below.refl _ _
end Go.Proofs.YtikbegmodacopaaGreatDoor
namespace Go.Proofs.YtikbegmodacopaaGreatDoor
set_option maxRecDepth 100000
open Go.RowKit Go.PlainAid
set_option linter.unusedVariables false
theorem cutN_le4 (s:ByteArray) (i:Nat):cutN s i≤4:=by
 unfold cutN
 rw [Lib.decode_at]
 unfold Lib.decodeN
 repeat' split
 all_goals simp
theorem escN_ok (s:ByteArray) (i:Nat) (c:Int) (b:Bool) (k:Nat) (h:escN s i=some (c,b,k)):0≤c∧(b=true→c<256)∧(b=false→isRune c.toNat)∧2≤k∧k≤6:=by
 have hb:=bn_lt s (i+1)
 have h2:=hexW_bd s (i+2) 2
 have h4:=hexW_bd s (i+2) 4
 have e16:(16:Int) ^ 2=256:=by decide
 have e64:(16:Int) ^ 4=65536:=by decide
 rw [e16] at h2
 rw [e64] at h4
 unfold escN at h
 unfold isRune
 repeat' split at h
 all_goals
  simp only [Option.some.injEq,Prod.mk.injEq,reduceCtorEq] at h
 all_goals
  obtain ⟨rfl,rfl,rfl⟩:=h
  refine ⟨by omega,fun e=>?_,fun e=>?_,by omega,by omega⟩ <;> first | omega | simp at e
theorem sayN_k (s:ByteArray) (i:Nat):(sayN s i).2.2.1≤6:=by
 unfold sayN
 split
 ·split
  ·simp
  ·rename_i h;exact (escN_ok s i _ _ _ h).2.2.2.2
 ·split
  ·simp
  ·split
   ·simp
   ·have:=cutN_le4 s i;simp;omega
def runeN (s:ByteArray):Int × Int × Int :=
 if s.size=0 then (0,0,11) else if bn s 0≠39 then (0,0,11) else if s.size=1 then (0,1,11) else if bn s 1=39 then (0,1,10)
 else if (sayN s 1).2.2.2≠0 then (0,1,(sayN s 1).2.2.2)
 else if s.size≤1+(sayN s 1).2.2.1 then (0,1+(sayN s 1).2.2.1,11)
 else if bn s (1+(sayN s 1).2.2.1)≠39 then (0,1+(sayN s 1).2.2.1,11)
 else if 2+(sayN s 1).2.2.1<s.size then (0,2+(sayN s 1).2.2.1,10)
 else ((sayN s 1).1,0,0)
abbrev RuneIs (x:Int × Int × Int) (w:World) (e:Ending) (w':World):Prop:=e=.returned (.tuple #[.int .i32 x.1,.int .i64 x.2.1,.int .i64 x.2.2])∧Below w.heap.size w w'
theorem not_empty (s:ByteArray) (h:0<s.size):s.toList.isEmpty=false:=by
 rw [ByteArray.toList_eq]
 have h':0<s.data.toList.length:=by simpa using h
 cases e:s.data.toList with
 | nil=>rw [e] at h';exact absurd h' (by decide)
 | cons x l=>rfl
theorem is_empty (s:ByteArray) (h:s.size=0):s=ByteArray.mk #[]:=by
 obtain ⟨d⟩:=s
 have hd:d.size=0:=h
 rw [Array.eq_empty_of_size_eq_zero hd]
theorem thing_any (s:ByteArray) (i:Nat) (q:Int) (w:World) (hz:s.size≤1152921504606846976) (hi:i<s.size) (h:bt s i≠q) :
  Calls Tryz.prog 221 #[.string s,.int .i64 i,.int .u8 q] w fun e w'=>∃ T,((sayN s i).2.2.2=0→IsText T (sayB s i))∧ThingIs T (sayN s i).1 ((i+(sayN s i).2.2.1:Nat):Int) false (sayN s i).2.2.2 w e w':=by
 have hb:=bt_eq s i hi
 unfold sayB
 by_cases h92:bn s i=92
 ·refine (thing_esc s i q w hz hi h (by omega)).mono fun e w' ho=>?_
  rcases ho with ⟨hn,ho⟩ | ⟨c,b,k,hn,ho⟩
  ·have e0:sayN s i=(0,false,0,12):=by unfold sayN;rw [if_pos h92,hn]
   rw [e0]
   exact ⟨_,(fun e=>by cases e),ho⟩
  ·have e0:sayN s i=(c,b,k,0):=by unfold sayN;rw [if_pos h92,hn]
   rw [e0]
   refine ⟨_,fun _=>textOf_isText _ ?_,ho⟩
   obtain ⟨g0,g1,g2,_⟩:=escN_ok s i c b k hn
   intro x hx
   unfold escB at hx
   cases b with
   | true =>
    have:=g1 rfl
    simp only [if_true,List.mem_singleton] at hx
    omega
   | false=>exact codeL_lt _ (g2 rfl) x (by simpa using hx)
 by_cases hc:bn s i<32∨bn s i=127
 ·have e0:sayN s i=(0,false,0,10):=by unfold sayN;rw [if_neg h92,if_pos hc]
  rw [e0]
  refine (thing_ctl s i q w hi h (by omega) (by omega)).mono fun e w' ho=>⟨_,(fun e=>by cases e),ho⟩
 by_cases hl:lost s i
 ·have e0:sayN s i=(0,false,0,13):=by unfold sayN;rw [if_neg h92,if_neg hc,if_pos hl]
  rw [e0]
  refine (thing_lost s i q w hz hi h (by omega) (by omega) (by omega) hl).mono fun e w' ho=>⟨_,(fun e=>by cases e),ho⟩
 ·have e0:sayN s i=(((Utf8.decode s i).1:Int),false,cutN s i,0):=by unfold sayN;rw [if_neg h92,if_neg hc,if_neg hl]
  rw [e0]
  obtain ⟨_,hm,hcn⟩:=cut_code s i hi hl
  refine (thing_rune s i q w hz hi h (by omega) (by omega) (by omega) hl).mono fun e w' ho=>?_
  unfold cutR at ho
  rw [if_neg hl] at ho
  refine ⟨_,fun _=>?_,ho⟩
  have:=matches_text s i _ hm
  rw [← hcn] at this
  simpa [escB] using this
theorem trune_0 (w:World):Calls Tryz.prog 220 #[.string ⟨#[]⟩] w (RuneIs (0,0,11) w):=by
 go_enter Tryz.func220,Tryz.ntmps220
 go_wp2
 go_ret3
 exact ⟨rfl,Below.refl _ _⟩
set_option maxHeartbeats 1000000 in
theorem trune_1 (s:ByteArray) (w:World) (h0:0<s.size) (h1:bt s 0≠39) :
  Calls Tryz.prog 220 #[.string s] w (RuneIs (0,0,11) w):=by
 have hbt:=get_bt s
 have hne:=not_empty s (by omega)
 have h2:(bt s 0 != 39)=true:=bne_iff_ne.2 h1
 clear h1
 go_enter Tryz.func220,Tryz.ntmps220
 go_wp2
 go_ret3
 exact ⟨rfl,Below.refl _ _⟩
set_option maxHeartbeats 1000000 in
theorem trune_2 (s:ByteArray) (w:World) (h0:s.size=1) (h1:bt s 0=39) :
  Calls Tryz.prog 220 #[.string s] w (RuneIs (0,1,11) w):=by
 have hbt:=get_bt s
 have hne:=not_empty s (by omega)
 go_enter Tryz.func220,Tryz.ntmps220
 go_wp2
 go_ret3
 exact ⟨rfl,Below.refl _ _⟩
set_option maxHeartbeats 1000000 in
theorem trune_3 (s:ByteArray) (w:World) (h0:1<s.size) (h1:bt s 0=39) (h2:bt s 1=39) :
  Calls Tryz.prog 220 #[.string s] w (RuneIs (0,1,10) w):=by
 have hbt:=get_bt s
 have hne:=not_empty s (by omega)
 go_enter Tryz.func220,Tryz.ntmps220
 go_wp2
 go_ret3
 exact ⟨rfl,Below.refl _ _⟩
set_option maxHeartbeats 1000000 in
theorem trune_4 (s:ByteArray) (w:World) (hz:s.size≤1152921504606846976) (h0:1<s.size) (h1:bt s 0=39) (h2:bt s 1≠39) (c:Int) (b:Bool) (k:Nat) (er:Int) (hN:sayN s 1=(c,b,k,er)) (hk:k≤6) (he:er≠0) :
  Calls Tryz.prog 220 #[.string s] w (RuneIs (0,1,er) w):=by
 have hbt:=get_bt s
 have hne:=not_empty s (by omega)
 have e1:((s.size:Int) == 1)=false:=by rw [beq_eq_false_iff_ne];omega
 have x2:(bt s 1 == 39)=false:=by rw [beq_eq_false_iff_ne];exact h2
 have hcall:∀ W,Calls Tryz.prog 226 #[.string s,.int .i64 1] W (SayOut c b k er W):=fun W=>by
  have:=say_any s 1 W (by omega)
  rw [hN] at this
  exact this
 have HCALL:=hide_ hcall
 clear hcall hN h2
 have x3:(er != 0)=true:=bne_iff_ne.2 he
 clear he
 go_enter Tryz.func220,Tryz.ntmps220
 go_wp2_with (go_at_call 226;refine (HCALL.out _).mono ?_;rintro e w' ⟨rfl,hbel⟩)
 go_ret3
 exact ⟨rfl,hbel.alloc hbel.size _⟩
set_option maxHeartbeats 1000000 in
theorem trune_5 (s:ByteArray) (w:World) (hz:s.size≤1152921504606846976) (h0:1<s.size) (h1:bt s 0=39) (h2:bt s 1≠39) (c:Int) (b:Bool) (k:Nat) (er:Int) (hN:sayN s 1=(c,b,k,er)) (hk:k≤6) (he:er=0) (h5:s.size≤1+k) :
  Calls Tryz.prog 220 #[.string s] w (RuneIs (0,1+(k:Int),11) w):=by
 have hbt:=get_bt s
 subst he
 have hne:=not_empty s (by omega)
 have e1:((s.size:Int) == 1)=false:=by rw [beq_eq_false_iff_ne];omega
 have x2:(bt s 1 == 39)=false:=by rw [beq_eq_false_iff_ne];exact h2
 have hcall:∀ W,Calls Tryz.prog 226 #[.string s,.int .i64 1] W (SayOut c b k 0 W):=fun W=>by
  have:=say_any s 1 W (by omega)
  rw [hN] at this
  exact this
 have HCALL:=hide_ hcall
 clear hcall hN h2
 go_enter Tryz.func220,Tryz.ntmps220
 go_wp2_with (go_at_call 226;refine (HCALL.out _).mono ?_;rintro e w' ⟨rfl,hbel⟩)
 go_ret3
 exact ⟨rfl,hbel.alloc hbel.size _⟩
set_option maxHeartbeats 1000000 in
theorem trune_6 (s:ByteArray) (w:World) (hz:s.size≤1152921504606846976) (h0:1<s.size) (h1:bt s 0=39) (h2:bt s 1≠39) (c:Int) (b:Bool) (k:Nat) (er:Int) (hN:sayN s 1=(c,b,k,er)) (hk:k≤6) (he:er=0) (h5:1+k<s.size) (h6:bt s (1+k)≠39) :
  Calls Tryz.prog 220 #[.string s] w (RuneIs (0,1+(k:Int),11) w):=by
 have hbt:=get_bt s
 subst he
 have hne:=not_empty s (by omega)
 have e1:((s.size:Int) == 1)=false:=by rw [beq_eq_false_iff_ne];omega
 have x2:(bt s 1 == 39)=false:=by rw [beq_eq_false_iff_ne];exact h2
 have hcall:∀ W,Calls Tryz.prog 226 #[.string s,.int .i64 1] W (SayOut c b k 0 W):=fun W=>by
  have:=say_any s 1 W (by omega)
  rw [hN] at this
  exact this
 have HCALL:=hide_ hcall
 clear hcall hN h2
 have y1:((1:Int)+(k:Int)).toNat=1+k:=by omega
 have y2:(bt s (1+k) != 39)=true:=bne_iff_ne.2 h6
 clear h6
 go_enter Tryz.func220,Tryz.ntmps220
 go_wp2_with (go_at_call 226;refine (HCALL.out _).mono ?_;rintro e w' ⟨rfl,hbel⟩)
 go_ret3
 exact ⟨rfl,hbel.alloc hbel.size _⟩
set_option maxHeartbeats 1000000 in
theorem trune_7 (s:ByteArray) (w:World) (hz:s.size≤1152921504606846976) (h0:1<s.size) (h1:bt s 0=39) (h2:bt s 1≠39) (c:Int) (b:Bool) (k:Nat) (er:Int) (hN:sayN s 1=(c,b,k,er)) (hk:k≤6) (he:er=0) (h5:2+k<s.size) (h6:bt s (1+k)=39) :
  Calls Tryz.prog 220 #[.string s] w (RuneIs (0,1+(k:Int)+1,10) w):=by
 have hbt:=get_bt s
 subst he
 have hne:=not_empty s (by omega)
 have e1:((s.size:Int) == 1)=false:=by rw [beq_eq_false_iff_ne];omega
 have x2:(bt s 1 == 39)=false:=by rw [beq_eq_false_iff_ne];exact h2
 have hcall:∀ W,Calls Tryz.prog 226 #[.string s,.int .i64 1] W (SayOut c b k 0 W):=fun W=>by
  have:=say_any s 1 W (by omega)
  rw [hN] at this
  exact this
 have HCALL:=hide_ hcall
 clear hcall hN h2
 have y1:((1:Int)+(k:Int)).toNat=1+k:=by omega
 go_enter Tryz.func220,Tryz.ntmps220
 go_wp2_with (go_at_call 226;refine (HCALL.out _).mono ?_;rintro e w' ⟨rfl,hbel⟩)
 go_ret3
 exact ⟨rfl,hbel.alloc hbel.size _⟩
set_option maxHeartbeats 1000000 in
theorem trune_8 (s:ByteArray) (w:World) (hz:s.size≤1152921504606846976) (h0:1<s.size) (h1:bt s 0=39) (h2:bt s 1≠39) (c:Int) (b:Bool) (k:Nat) (er:Int) (hN:sayN s 1=(c,b,k,er)) (hk:k≤6) (he:er=0) (h5:2+k=s.size) (h6:bt s (1+k)=39) :
  Calls Tryz.prog 220 #[.string s] w (RuneIs (c,0,0) w):=by
 have hbt:=get_bt s
 subst he
 have hne:=not_empty s (by omega)
 have e1:((s.size:Int) == 1)=false:=by rw [beq_eq_false_iff_ne];omega
 have x2:(bt s 1 == 39)=false:=by rw [beq_eq_false_iff_ne];exact h2
 have hcall:∀ W,Calls Tryz.prog 226 #[.string s,.int .i64 1] W (SayOut c b k 0 W):=fun W=>by
  have:=say_any s 1 W (by omega)
  rw [hN] at this
  exact this
 have HCALL:=hide_ hcall
 clear hcall hN h2
 have y1:((1:Int)+(k:Int)).toNat=1+k:=by omega
 go_enter Tryz.func220,Tryz.ntmps220
 go_wp2_with (go_at_call 226;refine (HCALL.out _).mono ?_;rintro e w' ⟨rfl,hbel⟩)
 go_ret3
 exact ⟨rfl,hbel.alloc hbel.size _⟩
theorem trune_any (s:ByteArray) (w:World) (hz:s.size≤1152921504606846976) :
  Calls Tryz.prog 220 #[.string s] w (RuneIs (runeN s) w):=by
 unfold runeN
 by_cases h0:s.size=0
 ·obtain rfl:=is_empty s h0
  rw [if_pos h0]
  exact trune_0 w
 rw [if_neg h0]
 have hb0:=bt_eq s 0 (by omega)
 by_cases h1:bn s 0≠39
 ·rw [if_pos h1]
  exact trune_1 s w (by omega) (by omega)
 rw [if_neg h1]
 by_cases h2:s.size=1
 ·rw [if_pos h2]
  exact trune_2 s w h2 (by omega)
 rw [if_neg h2]
 have hb1:=bt_eq s 1 (by omega)
 by_cases h3:bn s 1=39
 ·rw [if_pos h3]
  exact trune_3 s w (by omega) (by omega) (by omega)
 rw [if_neg h3]
 have hk:=sayN_k s 1
 obtain ⟨⟨c,b,k,er⟩,hN⟩:∃ x,sayN s 1=x:=⟨_,rfl⟩
 rw [hN] at hk ⊢
 simp only at hk ⊢
 by_cases h4:er≠0
 ·rw [if_pos h4]
  exact trune_4 s w hz (by omega) (by omega) (by omega) c b k er hN hk h4
 rw [if_neg h4]
 by_cases h5:s.size≤1+k
 ·rw [if_pos h5]
  exact trune_5 s w hz (by omega) (by omega) (by omega) c b k er hN hk (by omega) h5
 rw [if_neg h5]
 have hb2:=bt_eq s (1+k) (by omega)
 by_cases h6:bn s (1+k)≠39
 ·rw [if_pos h6]
  exact trune_6 s w hz (by omega) (by omega) (by omega) c b k er hN hk (by omega) (by omega) (by omega)
 rw [if_neg h6]
 by_cases h7:2+k<s.size
 ·rw [if_pos h7]
  have:=trune_7 s w hz (by omega) (by omega) (by omega) c b k er hN hk (by omega) h7 (by omega)
  rw [show (1:Int)+(k:Int)+1=2+(k:Int) by omega] at this
  exact this
 ·rw [if_neg h7]
  exact trune_8 s w hz (by omega) (by omega) (by omega) c b k er hN hk (by omega) (by omega) (by omega)
theorem rrune_0 (w:World):Calls Tryz.prog 207 #[.string ⟨#[]⟩] w (RuneIs (0,0,11) w):=by
 go_enter Tryz.func207,Tryz.ntmps207
 go_wp2
 go_ret3
 exact ⟨rfl,Below.refl _ _⟩
set_option maxHeartbeats 1000000 in
theorem rrune_1 (s:ByteArray) (w:World) (h0:0<s.size) (h1:bt s 0≠39) :
  Calls Tryz.prog 207 #[.string s] w (RuneIs (0,0,11) w):=by
 have hbt:=get_bt s
 have e0:((s.size:Int) == 0)=false:=by rw [beq_eq_false_iff_ne];omega
 have h2:(bt s 0 != 39)=true:=bne_iff_ne.2 h1
 clear h1
 go_enter Tryz.func207,Tryz.ntmps207
 go_wp2
 go_ret3
 exact ⟨rfl,Below.refl _ _⟩
set_option maxHeartbeats 1000000 in
theorem rrune_2 (s:ByteArray) (w:World) (h0:s.size=1) (h1:bt s 0=39) :
  Calls Tryz.prog 207 #[.string s] w (RuneIs (0,1,11) w):=by
 have hbt:=get_bt s
 have e0:((s.size:Int) == 0)=false:=by rw [beq_eq_false_iff_ne];omega
 go_enter Tryz.func207,Tryz.ntmps207
 go_wp2
 go_ret3
 exact ⟨rfl,Below.refl _ _⟩
set_option maxHeartbeats 1000000 in
theorem rrune_3 (s:ByteArray) (w:World) (hz:s.size≤1152921504606846976) (h0:1<s.size) (h1:bt s 0=39) (h2:bt s 1=39) :
  Calls Tryz.prog 207 #[.string s] w (RuneIs (0,1,10) w):=by
 have hbt:=get_bt s
 have e0:((s.size:Int) == 0)=false:=by rw [beq_eq_false_iff_ne];omega
 have e1:((s.size:Int) == 1)=false:=by rw [beq_eq_false_iff_ne];omega
 have hcall:=fun W=>thing_shut s 1 39 W hz (by omega) h2
 have HCALL:=hide_ hcall
 clear hcall h2
 go_enter Tryz.func207,Tryz.ntmps207
 go_wp2_with (go_at_call 221;refine (HCALL.out _).mono ?_;rintro e w' ⟨rfl,hbel⟩)
 go_ret3
 exact ⟨rfl,hbel⟩
set_option maxHeartbeats 1000000 in
theorem rrune_4 (s:ByteArray) (w:World) (hz:s.size≤1152921504606846976) (h0:1<s.size) (h1:bt s 0=39) (h2:bt s 1≠39) (c:Int) (b:Bool) (k:Nat) (er:Int) (hN:sayN s 1=(c,b,k,er)) (hk:k≤6) (he:er≠0) :
  Calls Tryz.prog 207 #[.string s] w (RuneIs (0,1,er) w):=by
 have hbt:=get_bt s
 have e0:((s.size:Int) == 0)=false:=by rw [beq_eq_false_iff_ne];omega
 have e1:((s.size:Int) == 1)=false:=by rw [beq_eq_false_iff_ne];omega
 have hcall:∀ W,Calls Tryz.prog 221 #[.string s,.int .i64 1,.int .u8 39] W (fun e w'=>∃ T,ThingIs T c (1+(k:Int)) false er W e w'):=fun W=>by
  refine (thing_any s 1 39 W hz (by omega) h2).mono fun e w' ho=>?_
  obtain ⟨T,_,ho⟩:=ho
  rw [hN] at ho
  have e1:((1+k:Nat):Int)=1+(k:Int):=by omega
  simp only [e1] at ho
  exact ⟨T,ho⟩
 have HCALL:=hide_ hcall
 clear hcall hN h2
 have x3:(er != 0)=true:=bne_iff_ne.2 he
 clear he
 go_enter Tryz.func207,Tryz.ntmps207
 go_wp2_with (go_at_call 221;refine (HCALL.out _).mono ?_;rintro e w' ⟨T,rfl,hbel⟩)
 go_ret3
 exact ⟨rfl,hbel⟩
set_option maxHeartbeats 1000000 in
theorem rrune_5 (s:ByteArray) (w:World) (hz:s.size≤1152921504606846976) (h0:1<s.size) (h1:bt s 0=39) (h2:bt s 1≠39) (c:Int) (b:Bool) (k:Nat) (er:Int) (hN:sayN s 1=(c,b,k,er)) (hk:k≤6) (he:er=0) (h5:s.size≤1+k) :
  Calls Tryz.prog 207 #[.string s] w (RuneIs (0,1+(k:Int),11) w):=by
 have hbt:=get_bt s
 subst he
 have e0:((s.size:Int) == 0)=false:=by rw [beq_eq_false_iff_ne];omega
 have e1:((s.size:Int) == 1)=false:=by rw [beq_eq_false_iff_ne];omega
 have hcall:∀ W,Calls Tryz.prog 221 #[.string s,.int .i64 1,.int .u8 39] W (fun e w'=>∃ T,ThingIs T c (1+(k:Int)) false 0 W e w'):=fun W=>by
  refine (thing_any s 1 39 W hz (by omega) h2).mono fun e w' ho=>?_
  obtain ⟨T,_,ho⟩:=ho
  rw [hN] at ho
  have e1:((1+k:Nat):Int)=1+(k:Int):=by omega
  simp only [e1] at ho
  exact ⟨T,ho⟩
 have HCALL:=hide_ hcall
 clear hcall hN h2
 go_enter Tryz.func207,Tryz.ntmps207
 go_wp2_with (go_at_call 221;refine (HCALL.out _).mono ?_;rintro e w' ⟨T,rfl,hbel⟩)
 go_ret3
 exact ⟨rfl,hbel⟩
set_option maxHeartbeats 1000000 in
theorem rrune_6 (s:ByteArray) (w:World) (hz:s.size≤1152921504606846976) (h0:1<s.size) (h1:bt s 0=39) (h2:bt s 1≠39) (c:Int) (b:Bool) (k:Nat) (er:Int) (hN:sayN s 1=(c,b,k,er)) (hk:k≤6) (he:er=0) (h5:1+k<s.size) (h6:bt s (1+k)≠39) :
  Calls Tryz.prog 207 #[.string s] w (RuneIs (0,1+(k:Int),11) w):=by
 have hbt:=get_bt s
 subst he
 have e0:((s.size:Int) == 0)=false:=by rw [beq_eq_false_iff_ne];omega
 have e1:((s.size:Int) == 1)=false:=by rw [beq_eq_false_iff_ne];omega
 have hcall:∀ W,Calls Tryz.prog 221 #[.string s,.int .i64 1,.int .u8 39] W (fun e w'=>∃ T,ThingIs T c (1+(k:Int)) false 0 W e w'):=fun W=>by
  refine (thing_any s 1 39 W hz (by omega) h2).mono fun e w' ho=>?_
  obtain ⟨T,_,ho⟩:=ho
  rw [hN] at ho
  have e1:((1+k:Nat):Int)=1+(k:Int):=by omega
  simp only [e1] at ho
  exact ⟨T,ho⟩
 have HCALL:=hide_ hcall
 clear hcall hN h2
 have y1:((1:Int)+(k:Int)).toNat=1+k:=by omega
 have y2:(bt s (1+k) != 39)=true:=bne_iff_ne.2 h6
 clear h6
 go_enter Tryz.func207,Tryz.ntmps207
 go_wp2_with (go_at_call 221;refine (HCALL.out _).mono ?_;rintro e w' ⟨T,rfl,hbel⟩)
 go_ret3
 exact ⟨rfl,hbel⟩
set_option maxHeartbeats 1000000 in
theorem rrune_7 (s:ByteArray) (w:World) (hz:s.size≤1152921504606846976) (h0:1<s.size) (h1:bt s 0=39) (h2:bt s 1≠39) (c:Int) (b:Bool) (k:Nat) (er:Int) (hN:sayN s 1=(c,b,k,er)) (hk:k≤6) (he:er=0) (h5:2+k<s.size) (h6:bt s (1+k)=39) :
  Calls Tryz.prog 207 #[.string s] w (RuneIs (0,1+(k:Int)+1,10) w):=by
 have hbt:=get_bt s
 subst he
 have e0:((s.size:Int) == 0)=false:=by rw [beq_eq_false_iff_ne];omega
 have e1:((s.size:Int) == 1)=false:=by rw [beq_eq_false_iff_ne];omega
 have hcall:∀ W,Calls Tryz.prog 221 #[.string s,.int .i64 1,.int .u8 39] W (fun e w'=>∃ T,ThingIs T c (1+(k:Int)) false 0 W e w'):=fun W=>by
  refine (thing_any s 1 39 W hz (by omega) h2).mono fun e w' ho=>?_
  obtain ⟨T,_,ho⟩:=ho
  rw [hN] at ho
  have e1:((1+k:Nat):Int)=1+(k:Int):=by omega
  simp only [e1] at ho
  exact ⟨T,ho⟩
 have HCALL:=hide_ hcall
 clear hcall hN h2
 have y1:((1:Int)+(k:Int)).toNat=1+k:=by omega
 go_enter Tryz.func207,Tryz.ntmps207
 go_wp2_with (go_at_call 221;refine (HCALL.out _).mono ?_;rintro e w' ⟨T,rfl,hbel⟩)
 go_ret3
 exact ⟨rfl,hbel⟩
set_option maxHeartbeats 1000000 in
theorem rrune_8 (s:ByteArray) (w:World) (hz:s.size≤1152921504606846976) (h0:1<s.size) (h1:bt s 0=39) (h2:bt s 1≠39) (c:Int) (b:Bool) (k:Nat) (er:Int) (hN:sayN s 1=(c,b,k,er)) (hk:k≤6) (he:er=0) (h5:2+k=s.size) (h6:bt s (1+k)=39) :
  Calls Tryz.prog 207 #[.string s] w (RuneIs (c,0,0) w):=by
 have hbt:=get_bt s
 subst he
 have e0:((s.size:Int) == 0)=false:=by rw [beq_eq_false_iff_ne];omega
 have e1:((s.size:Int) == 1)=false:=by rw [beq_eq_false_iff_ne];omega
 have hcall:∀ W,Calls Tryz.prog 221 #[.string s,.int .i64 1,.int .u8 39] W (fun e w'=>∃ T,ThingIs T c (1+(k:Int)) false 0 W e w'):=fun W=>by
  refine (thing_any s 1 39 W hz (by omega) h2).mono fun e w' ho=>?_
  obtain ⟨T,_,ho⟩:=ho
  rw [hN] at ho
  have e1:((1+k:Nat):Int)=1+(k:Int):=by omega
  simp only [e1] at ho
  exact ⟨T,ho⟩
 have HCALL:=hide_ hcall
 clear hcall hN h2
 have y1:((1:Int)+(k:Int)).toNat=1+k:=by omega
 go_enter Tryz.func207,Tryz.ntmps207
 go_wp2_with (go_at_call 221;refine (HCALL.out _).mono ?_;rintro e w' ⟨T,rfl,hbel⟩)
 go_ret3
 exact ⟨rfl,hbel⟩
theorem rrune_any (s:ByteArray) (w:World) (hz:s.size≤1152921504606846976) :
  Calls Tryz.prog 207 #[.string s] w (RuneIs (runeN s) w):=by
 unfold runeN
 by_cases h0:s.size=0
 ·obtain rfl:=is_empty s h0
  rw [if_pos h0]
  exact rrune_0 w
 rw [if_neg h0]
 have hb0:=bt_eq s 0 (by omega)
 by_cases h1:bn s 0≠39
 ·rw [if_pos h1]
  exact rrune_1 s w (by omega) (by omega)
 rw [if_neg h1]
 by_cases h2:s.size=1
 ·rw [if_pos h2]
  exact rrune_2 s w h2 (by omega)
 rw [if_neg h2]
 have hb1:=bt_eq s 1 (by omega)
 by_cases h3:bn s 1=39
 ·rw [if_pos h3]
  exact rrune_3 s w hz (by omega) (by omega) (by omega)
 rw [if_neg h3]
 have hk:=sayN_k s 1
 obtain ⟨⟨c,b,k,er⟩,hN⟩:∃ x,sayN s 1=x:=⟨_,rfl⟩
 rw [hN] at hk ⊢
 simp only at hk ⊢
 by_cases h4:er≠0
 ·rw [if_pos h4]
  exact rrune_4 s w hz (by omega) (by omega) (by omega) c b k er hN hk h4
 rw [if_neg h4]
 by_cases h5:s.size≤1+k
 ·rw [if_pos h5]
  exact rrune_5 s w hz (by omega) (by omega) (by omega) c b k er hN hk (by omega) h5
 rw [if_neg h5]
 have hb2:=bt_eq s (1+k) (by omega)
 by_cases h6:bn s (1+k)≠39
 ·rw [if_pos h6]
  exact rrune_6 s w hz (by omega) (by omega) (by omega) c b k er hN hk (by omega) (by omega) (by omega)
 rw [if_neg h6]
 by_cases h7:2+k<s.size
 ·rw [if_pos h7]
  have:=rrune_7 s w hz (by omega) (by omega) (by omega) c b k er hN hk (by omega) h7 (by omega)
  rw [show (1:Int)+(k:Int)+1=2+(k:Int) by omega] at this
  exact this
 ·rw [if_neg h7]
  exact rrune_8 s w hz (by omega) (by omega) (by omega) c b k er hN hk (by omega) (by omega) (by omega)
end Go.Proofs.YtikbegmodacopaaGreatDoor
namespace Go.Proofs.YtikbegmodacopaaGreatDoor
open Go.RowKit
abbrev u8s (xs:List Int):List Value:=xs.map (Value.int .u8)
theorem u8s_app (xs ys:List Int):u8s (xs ++ ys)=u8s xs ++ u8s ys:=List.map_append
theorem mark_ex (k i:Int):∃ m:Int,∀ w,Calls Tryz.prog 49 #[.int .i64 k,.int .i64 i] w fun e w'=>e=.returned (.int .u8 (m % 4294967296 / 16777216))∧w=w':=by
 apply Exists.intro
 intro w
 go_enter Tryz.func49,Tryz.ntmps49
 go_wp2
 go_ret
 exact ⟨rfl,rfl⟩
noncomputable def mk8 (k i:Int):Int:=Classical.choose (mark_ex k i) % 4294967296 / 16777216
noncomputable def marks8 (k:Int) (from_ n:Nat):List Int:=(List.range n).map fun i=>mk8 k (from_+i:Nat)
theorem marks8_len (k:Int) (f n:Nat):(marks8 k f n).length=n:=by simp [marks8]
end Go.Proofs.YtikbegmodacopaaGreatDoor
namespace Go.Proofs.YtikbegmodacopaaGreatDoor
open Go.RowKit Go.PlainAid Go.Shelf
theorem bld_u8:(Tryz.prog.info? 5).map (fun i=>(i.zero,i.size,i.bytes))=some (some (.int .u8 0),1,1):=by kernel_rfl
theorem bld_size:(Tryz.prog.info? 96).map (·.size)=some 2:=by kernel_rfl
theorem bld_lies:liesAt Tryz.prog Tryz.prog.depth 96 (2 / Tryz.prog.cellsOf 96) 0 96 1=true:=by kernel_rfl
set_option maxHeartbeats 1000000 in
set_option maxRecDepth 100000 in
theorem bld_used (b:Nat) (w:World) (h0:w.cell? ⟨b,0,none⟩=some (.pointer (some ⟨b,0,none⟩))) :
  Calls Tryz.prog 96 #[.pointer (some ⟨b,0,none⟩)] w fun e w'=>e=.returned (.tuple #[])∧w'=w:=by
 obtain ⟨j,hj,_⟩:=Option.map_eq_some_iff.1 bld_size
 go_enter Tryz.func96,Tryz.ntmps96
 go_wp2
 rw [Lib.run_neq_ptr_same w _ Tryz.underlying94 hj]
 go_wp2
 go_end0
 exact ⟨rfl,rfl⟩
set_option maxHeartbeats 1000000 in
set_option maxRecDepth 100000 in
theorem bld_fresh (b:Nat) (w:World) (h0:w.cell? ⟨b,0,none⟩=some (.pointer none)) (hsh:w.shape? b=some (96,2)) (hfz:w.frozen? ⟨b,0,none⟩=false) :
  Calls Tryz.prog 96 #[.pointer (some ⟨b,0,none⟩)] w fun e w'=>e=.returned (.tuple #[])∧w'=w.setCell ⟨b,0,none⟩ (.pointer (some ⟨b,0,none⟩)):=by
 obtain ⟨j,hj,hjs⟩:=Option.map_eq_some_iff.1 bld_size
 go_enter Tryz.func96,Tryz.ntmps96
 go_wp2
 rw [Lib.run_to_unsafe w ⟨b,0,none⟩ Tryz.underlying94 Tryz.underlying162 hj (by rw [hjs];decide) hsh (Nat.zero_lt_succ 1)]
 simp only [Result.andThen]
 rw [Oper.upon_value]
 go_wp2
 rw [run_callFunc_extern Tryz.func129 (by kernel_rfl) (by kernel_rfl) (by kernel_rfl) (e:=Extern.AbiNoEscape.same) (by kernel_rfl)]
 rw [Lib.run_noEscape]
 simp only [Result.andThen]
 rw [Oper.upon_value]
 go_wp2
 rw [Lib.run_from_unsafe w ⟨b,0,none⟩ Tryz.underlying162 Tryz.underlying94 hj hsh bld_lies]
 simp only [Result.andThen]
 rw [Oper.upon_value]
 go_wp2
 go_end0
 exact ⟨rfl,rfl⟩
theorem bld_check (B b:Nat) (bs:List Value) (w:World) (h:Lib.IsBuilderF 96 5 B b bs w) :
  Calls Tryz.prog 96 #[.pointer (some ⟨b,0,none⟩)] w fun e w'=>e=.returned (.tuple #[])∧(Lib.BuilderAtF 96 5 B b (.pointer (some ⟨b,0,none⟩)) bs w'∧Below B w w'∧Lib.OthersKept 5 (some b) w w'):=by
 rcases h with h | h
 ·refine (bld_fresh b w h.cell0 h.shape h.frozen0).mono ?_
  rintro e w' ⟨rfl,rfl⟩
  exact ⟨rfl,h.used _,(Below.refl B w).setCell (p:=⟨b,0,none⟩) h.1 _,(Lib.OthersKept.refl _ _ w).setCell ⟨b,0,none⟩ rfl _⟩
 ·refine (bld_used b w h.cell0).mono ?_
  rintro e w' ⟨rfl,rfl⟩
  exact ⟨rfl,h,Below.refl B _,Lib.OthersKept.refl _ _ _⟩
set_option maxHeartbeats 2000000 in
set_option maxRecDepth 100000 in
theorem bld_byte (B b:Nat) (bs:List Value) (c:Int) (w:World) (h:Lib.IsBuilderF 96 5 B b bs w) (hlen:bs.length+1≤140737488355328) (hBw:B≤w.heap.size) :
  Calls Tryz.prog 156 #[.pointer (some ⟨b,0,none⟩),.int .u8 c] w fun e w'=>e=.returned .nilIface∧(Lib.BuilderAtF 96 5 B b (.pointer (some ⟨b,0,none⟩)) (bs ++ [.int .u8 c]) w'∧Below B w w'∧Lib.OthersKept 5 (some b) w w'):=by
 obtain ⟨i0,hi,hz0,hz1,hz2⟩:=info_parts bld_u8
 go_enter Tryz.func156,Tryz.ntmps156
 go_wp2_with (go_at_call 96;refine (bld_check B b bs _ h).mono ?_)
 rintro e w1 ⟨rfl,h1,hb1,hk1⟩
 obtain ⟨hB,v,hbk,hown,hne⟩:=h1
 have c0:w1.cell? ⟨b,0,none⟩=some (.pointer (some ⟨b,0,none⟩)):=by rw [Lib.cell_of_heap hbk];rfl
 have c1:w1.cell? ⟨b,1,none⟩=some v:=by rw [Lib.cell_of_heap hbk];rfl
 go_wp2_with (at_builtin;refine wpList_append_ownF _ rfl _ _ 24 rfl B 5 i0 (.int .u8 0) 1 1 Tryz.underlying24 hi hz0 hz1 hz2 rfl (by decide) _ _ _ rfl (hown.alloc _) ⟨w1.heap.size,0,none⟩ 1 1 [.int .u8 c] rfl rfl ?c1 ?c2 ?c3 ?c4 ?c5 ?_)
 case c1 =>
  intro j u hj
  match j,hj with
  | 0,hj=>simp at hj;subst hj;simp [Addr.add]
 case c2=>intro u hu;simp at hu;subst hu;rfl
 case c3=>unfold maxLen;omega
 case c4=>omega
 case c5=>have:=hb1.size;simp;omega
 intro v' w2 hown' hgrow _
 have hlt:b<w1.heap.size:=by
  rcases Nat.lt_or_ge b w1.heap.size with h' | h'
  ·exact h'
  ·simp [Array.getElem?_eq_none h'] at hbk
 have hb2:w2.heap[b]?=some (.cells #[.pointer (some ⟨b,0,none⟩),v] 96 (0,0)):=by
  rw [hgrow.block b (by simp;omega) (fun e=>hne e.symm),Lib.alloc_old w1 _ b hlt]
  exact hbk
 have d0:w2.cell? ⟨b,0,none⟩=some (.pointer (some ⟨b,0,none⟩)):=by rw [Lib.cell_of_heap hb2];rfl
 have d1:w2.cell? ⟨b,1,none⟩=some v:=by rw [Lib.cell_of_heap hb2];rfl
 have f1:w2.frozen? ⟨b,1,none⟩=false:=Lib.frozen_of_heap hb2 1
 obtain ⟨g,cap,rfl⟩:∃ g cap,v'=.slice (some ⟨g,0,none⟩) (bs.length+1) cap:=by
  rcases hown'.2 with ⟨_,h0⟩ | ⟨g,cap,cur,fz,hv,_⟩
  ·omega
  ·exact ⟨g,cap,hv⟩
 go_wp2
 go_ret
 refine ⟨rfl,?_,?_,((hk1.alloc _).grown hgrow (Lib.ownsRowF_kind (hown.alloc _))).setCell ⟨b,1,none⟩ rfl _⟩
 ·exact Lib.BuilderAtF.put (T:=96) (e:=5) hB hb2 (bs':=bs ++ [.int .u8 c]) (by simpa using hown') (by decide)
 ·exact ((hb1.alloc (by have:=hb1.size;omega) _).grown hgrow (by have:=hb1.size;simp;omega) (fun k hk=>(hown.lt k hk).1)).setCell (p:=⟨b,1,none⟩) hB _
set_option maxHeartbeats 2000000 in
set_option maxRecDepth 100000 in
theorem bld_string (B b:Nat) (bs:List Value) (s:ByteArray) (w:World) (h:Lib.IsBuilderF 96 5 B b bs w) (hlen:bs.length+s.size≤140737488355328) (hBw:B≤w.heap.size) :
  Calls Tryz.prog 57 #[.pointer (some ⟨b,0,none⟩),.string s] w fun e w'=>e=.returned (.tuple #[.int .i64 s.size,.nilIface])∧(Lib.BuilderAtF 96 5 B b (.pointer (some ⟨b,0,none⟩)) (bs ++ Lib.strCells s) w'∧Below B w w'∧Lib.OthersKept 5 (some b) w w'):=by
 obtain ⟨i0,hi,hz0,hz1,hz2⟩:=info_parts bld_u8
 go_enter Tryz.func57,Tryz.ntmps57
 go_wp2_with (go_at_call 96;refine (bld_check B b bs _ h).mono ?_)
 rintro e w1 ⟨rfl,h1,hb1,hk1⟩
 obtain ⟨hB,v,hbk,hown,hne⟩:=h1
 have c0:w1.cell? ⟨b,0,none⟩=some (.pointer (some ⟨b,0,none⟩)):=by rw [Lib.cell_of_heap hbk];rfl
 have c1:w1.cell? ⟨b,1,none⟩=some v:=by rw [Lib.cell_of_heap hbk];rfl
 go_wp2_with (at_builtin;refine Lib.wpList_append_own_stringF _ rfl _ _ 24 9 rfl B 5 i0 Tryz.underlying24 Tryz.underlying9 hi hz0 hz1 hz2 _ _ _ rfl hown s rfl ?c3 ?c4 ?c5 ?_)
 case c3=>unfold maxLen;omega
 case c4=>omega
 case c5=>have:=hb1.size;omega
 intro v' w2 hown' hgrow _
 have hlt:b<w1.heap.size:=by
  rcases Nat.lt_or_ge b w1.heap.size with h' | h'
  ·exact h'
  ·simp [Array.getElem?_eq_none h'] at hbk
 have hb2:w2.heap[b]?=some (.cells #[.pointer (some ⟨b,0,none⟩),v] 96 (0,0)):=by
  rw [hgrow.block b hlt (fun e=>hne e.symm)]
  exact hbk
 have d0:w2.cell? ⟨b,0,none⟩=some (.pointer (some ⟨b,0,none⟩)):=by rw [Lib.cell_of_heap hb2];rfl
 have d1:w2.cell? ⟨b,1,none⟩=some v:=by rw [Lib.cell_of_heap hb2];rfl
 have f1:w2.frozen? ⟨b,1,none⟩=false:=Lib.frozen_of_heap hb2 1
 obtain ⟨ao,n',cap,rfl⟩:∃ ao n' cap,v'=.slice ao n' cap:=by
  rcases hown'.2 with ⟨hv,_⟩ | ⟨g,cap,cur,fz,hv,_⟩
  ·exact ⟨_,_,_,hv⟩
  ·exact ⟨_,_,_,hv⟩
 go_wp2
 go_ret2
 refine ⟨rfl,?_,?_,(hk1.grown hgrow (Lib.ownsRowF_kind hown)).setCell ⟨b,1,none⟩ rfl _⟩
 ·exact Lib.BuilderAtF.put (T:=96) (e:=5) hB hb2 (bs':=bs ++ Lib.strCells s) (by simpa [Lib.strCells_length] using hown') (by decide)
 ·exact (hb1.grown hgrow (by have:=hb1.size;omega) (fun k hk=>(hown.lt k hk).1)).setCell (p:=⟨b,1,none⟩) hB _
end Go.Proofs.YtikbegmodacopaaGreatDoor
