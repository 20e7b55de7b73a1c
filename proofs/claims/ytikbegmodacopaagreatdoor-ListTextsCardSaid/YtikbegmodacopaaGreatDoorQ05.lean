/-
  Joined and packed by program.
-/
import Derived.Test.YtikbegmodacopaaGreatDoorQ04
import Derived.Test.YtikbegmodacopaaGreatDoorQ03
namespace Go.Proofs.YtikbegmodacopaaGreatDoor
open Go.RowKit Go.PlainAid
theorem conv_new (w:World) (l:List Nat) (c:Nat) :
  (convert 24 9 (.slice (some ⟨w.heap.size,0,none⟩) l.length c)).run Tryz.prog (w.alloc (.cells (n8s l).toArray 5))=.ok (.string (textOf l)) (w.alloc (.cells (n8s l).toArray 5)) :=
 run_text_of_reads (P:=Tryz.prog) _ (w.heap.size+1) 24 5 Tryz.underlying24 Tryz.underlying5 _ _ c l (reads_new w 5 1 l.length (n8s l) (by simp)) 9 Tryz.underlying9
theorem Code_no (x:Int) (w:World) (h:x<0∨1114111<x∨(55296≤x∧x≤57343)) :
  Calls Tryz.prog 236 #[.int .i32 x] w fun e w'=>e=.returned (.tuple #[.string ⟨#[]⟩,.bool false])∧w=w':=by
 rcases h with h | h | ⟨h,h'⟩
 all_goals
  go_enter Tryz.func236,Tryz.ntmps236
  go_wp2
  go_ret2
  exact ⟨rfl,rfl⟩
set_option maxRecDepth 100000 in
set_option maxHeartbeats 1000000 in
theorem Code_any (v:Nat) (w:World) (hr:isRune v) :
  Calls Tryz.prog 236 #[.int .i32 v] w fun e w'=>e=.returned (.tuple #[.string (textOf (codeL v)),.bool true])∧Below w.heap.size w w':=by
 obtain ⟨hr1,hr2⟩:=hr
 rcases (show v<128∨(128≤v∧v<2048)∨((2048≤v∧v<55296)∨(57343<v∧v<65536))∨65536≤v by omega) with a | ⟨a,b⟩ | a | a
 ·have e1:codeL v=[v]:=by unfold codeL;rw [if_pos a]
  rw [e1]
  obtain ⟨x,hx⟩:∃ x:Int,x=(v:Int):=⟨_,rfl⟩
  have hcv:(convert 24 9 (.slice (some ⟨w.heap.size,0,none⟩) 1 1)).run Tryz.prog (w.alloc (.cells #[.int .u8 (v:Int)] 5))=.ok (.string (textOf [v])) (w.alloc (.cells #[.int .u8 (v:Int)] 5)):=conv_new w [v] 1
  rw [← hx] at hcv ⊢
  have p1:x % 256=x:=by omega
  have c1:0≤x:=by omega
  have c2:x<128:=by omega
  clear hx hr1 hr2 a
  go_enter Tryz.func236,Tryz.ntmps236
  go_wp2
  go_ret2
  exact ⟨rfl,(Below.refl _ w).alloc (Nat.le_refl _) _⟩
 ·have e1:codeL v=[192+v / 64,128+v % 64]:=by unfold codeL;rw [if_neg (by omega),if_pos b]
  rw [e1]
  obtain ⟨x,hx⟩:∃ x:Int,x=(v:Int):=⟨_,rfl⟩
  have hcv:(convert 24 9 (.slice (some ⟨w.heap.size,0,none⟩) 2 2)).run Tryz.prog (w.alloc (.cells #[.int .u8 (192+(v:Int) / 64),.int .u8 (128+(v:Int) % 64)] 5))=.ok (.string (textOf [192+v / 64,128+v % 64])) (w.alloc (.cells #[.int .u8 (192+(v:Int) / 64),.int .u8 (128+(v:Int) % 64)] 5)):=conv_new w [192+v / 64,128+v % 64] 2
  rw [← hx] at hcv ⊢
  have p1:(192+x / 64) % 256=192+x / 64:=by omega
  have p2:(128+x % 64) % 256=128+x % 64:=by omega
  have c1:128≤x:=by omega
  have c2:x<2048:=by omega
  clear hx hr1 hr2 a b
  go_enter Tryz.func236,Tryz.ntmps236
  go_wp2
  go_ret2
  exact ⟨rfl,(Below.refl _ w).alloc (Nat.le_refl _) _⟩
 ·have e1:codeL v=[224+v / 4096,128+v / 64 % 64,128+v % 64]:=by unfold codeL;rw [if_neg (by omega),if_neg (by omega),if_pos (by omega)]
  rw [e1]
  obtain ⟨x,hx⟩:∃ x:Int,x=(v:Int):=⟨_,rfl⟩
  have hcv:(convert 24 9 (.slice (some ⟨w.heap.size,0,none⟩) 3 3)).run Tryz.prog (w.alloc (.cells #[.int .u8 (224+(v:Int) / 4096),.int .u8 (128+(v:Int) / 64 % 64),.int .u8 (128+(v:Int) % 64)] 5))=.ok (.string (textOf [224+v / 4096,128+v / 64 % 64,128+v % 64])) (w.alloc (.cells #[.int .u8 (224+(v:Int) / 4096),.int .u8 (128+(v:Int) / 64 % 64),.int .u8 (128+(v:Int) % 64)] 5)):=conv_new w [224+v / 4096,128+v / 64 % 64,128+v % 64] 3
  rw [← hx] at hcv ⊢
  have p1:(224+x / 4096) % 256=224+x / 4096:=by omega
  have p2:(128+x / 64 % 64) % 256=128+x / 64 % 64:=by omega
  have p3:(128+x % 64) % 256=128+x % 64:=by omega
  have c0:(2048≤x∧x<55296)∨(57343<x∧x<65536):=by omega
  clear hx hr1 hr2 a
  rcases c0 with ⟨c1,c2⟩ | ⟨c1,c2⟩
  all_goals
   go_enter Tryz.func236,Tryz.ntmps236
   go_wp2
   go_ret2
   exact ⟨rfl,(Below.refl _ w).alloc (Nat.le_refl _) _⟩
 ·have e1:codeL v=[240+v / 262144,128+v / 4096 % 64,128+v / 64 % 64,128+v % 64]:=by unfold codeL;rw [if_neg (by omega),if_neg (by omega),if_neg (by omega)]
  rw [e1]
  obtain ⟨x,hx⟩:∃ x:Int,x=(v:Int):=⟨_,rfl⟩
  have hcv:(convert 24 9 (.slice (some ⟨w.heap.size,0,none⟩) 4 4)).run Tryz.prog (w.alloc (.cells #[.int .u8 (240+(v:Int) / 262144),.int .u8 (128+(v:Int) / 4096 % 64),.int .u8 (128+(v:Int) / 64 % 64),.int .u8 (128+(v:Int) % 64)] 5))=.ok (.string (textOf [240+v / 262144,128+v / 4096 % 64,128+v / 64 % 64,128+v % 64])) (w.alloc (.cells #[.int .u8 (240+(v:Int) / 262144),.int .u8 (128+(v:Int) / 4096 % 64),.int .u8 (128+(v:Int) / 64 % 64),.int .u8 (128+(v:Int) % 64)] 5)):=conv_new w [240+v / 262144,128+v / 4096 % 64,128+v / 64 % 64,128+v % 64] 4
  rw [← hx] at hcv ⊢
  have p1:(240+x / 262144) % 256=240+x / 262144:=by omega
  have p2:(128+x / 64 % 64) % 256=128+x / 64 % 64:=by omega
  have p3:(128+x % 64) % 256=128+x % 64:=by omega
  have p4:(128+x / 4096 % 64) % 256=128+x / 4096 % 64:=by omega
  have c1:65536≤x:=by omega
  have c2:x≤1114111:=by omega
  clear hx hr1 hr2 a
  go_enter Tryz.func236,Tryz.ntmps236
  go_wp2
  go_ret2
  exact ⟨rfl,(Below.refl _ w).alloc (Nat.le_refl _) _⟩
end Go.Proofs.YtikbegmodacopaaGreatDoor
namespace Go.Proofs.YtikbegmodacopaaGreatDoor
set_option maxRecDepth 100000
open Go.RowKit Go.PlainAid
theorem hexes_at (t:ByteArray) (i n:Nat) (k m:Int) (hk:k=((i+2:Nat):Int)) (hm:(n:Int)=m) (w:World) (hn:n≤4) (hi:i+2≤t.size) (hz:t.size≤1152921504606846976) (x:Int) (hx:hexW t (i+2) n=x) :
  Calls Tryz.prog 235 #[.string t,.int .i64 k,.int .i64 m] w fun e w'=>e=.returned (.int .i32 x)∧w=w':=by
 subst hk hm hx
 exact hexes_any t (i+2) n w hn hi hz
abbrev ThingIs (T:ByteArray) (c nx:Int) (shut:Bool) (err:Int) (w:World) (e:Ending) (w':World):Prop :=
 e=.returned (.tuple #[.string T,.int .i32 c,.int .i64 nx,.bool shut,.int .i64 err])∧Below w.heap.size w w'
theorem conv_one (w:World) (v:Nat) (x:Int) (hx:x=(v:Int)) :
  (convert 24 9 (.slice (some ⟨w.heap.size,0,none⟩) 1 1)).run Tryz.prog (w.alloc (.cells #[.int .u8 x] 5))=.ok (.string (textOf [v])) (w.alloc (.cells #[.int .u8 x] 5)):=by
 subst hx
 exact conv_new w [v] 1
set_option maxHeartbeats 1000000 in
theorem resc_short (s:ByteArray) (i:Nat) (w:World) (hz:s.size≤1152921504606846976) (hi:i<s.size) (h:s.size≤i+1) :
  Calls Tryz.prog 228 #[.string s,.int .i64 i] w (ThingIs ⟨#[]⟩ 0 i false 12 w):=by
 have hbt:=get_bt s
 go_enter Tryz.func228,Tryz.ntmps228
 go_wp2
 refine bodyPost_ret ?_ rfl ⟨rfl,?_⟩
 ·simp [results,Tryz.results228,go_sem]
 ·exact Below.refl _ _
set_option maxHeartbeats 1000000 in
theorem resc_n (s:ByteArray) (i:Nat) (w:World) (hz:s.size≤1152921504606846976) (_hi:i<s.size) (h:i+1<s.size) (h1:bt s (i+1)=110) :
  Calls Tryz.prog 228 #[.string s,.int .i64 i] w (ThingIs (textOf [10]) 10 (i+2) false 0 w):=by
 have hbt:=get_bt s
 have hcv:=conv_one w 10 10 rfl
 go_enter Tryz.func228,Tryz.ntmps228
 go_wp2
 refine bodyPost_ret ?_ rfl ⟨rfl,?_⟩
 ·simp [results,Tryz.results228,go_sem]
 ·exact (Below.refl _ w).alloc (Nat.le_refl _) _
set_option maxHeartbeats 1000000 in
theorem resc_t (s:ByteArray) (i:Nat) (w:World) (hz:s.size≤1152921504606846976) (_hi:i<s.size) (h:i+1<s.size) (h1:bt s (i+1)=116) :
  Calls Tryz.prog 228 #[.string s,.int .i64 i] w (ThingIs (textOf [9]) 9 (i+2) false 0 w):=by
 have hbt:=get_bt s
 have hcv:=conv_one w 9 9 rfl
 go_enter Tryz.func228,Tryz.ntmps228
 go_wp2
 refine bodyPost_ret ?_ rfl ⟨rfl,?_⟩
 ·simp [results,Tryz.results228,go_sem]
 ·exact (Below.refl _ w).alloc (Nat.le_refl _) _
set_option maxHeartbeats 1000000 in
theorem resc_r (s:ByteArray) (i:Nat) (w:World) (hz:s.size≤1152921504606846976) (_hi:i<s.size) (h:i+1<s.size) (h1:bt s (i+1)=114) :
  Calls Tryz.prog 228 #[.string s,.int .i64 i] w (ThingIs (textOf [13]) 13 (i+2) false 0 w):=by
 have hbt:=get_bt s
 have hcv:=conv_one w 13 13 rfl
 go_enter Tryz.func228,Tryz.ntmps228
 go_wp2
 refine bodyPost_ret ?_ rfl ⟨rfl,?_⟩
 ·simp [results,Tryz.results228,go_sem]
 ·exact (Below.refl _ w).alloc (Nat.le_refl _) _
set_option maxHeartbeats 1000000 in
theorem resc_z (s:ByteArray) (i:Nat) (w:World) (hz:s.size≤1152921504606846976) (_hi:i<s.size) (h:i+1<s.size) (h1:bt s (i+1)=48) :
  Calls Tryz.prog 228 #[.string s,.int .i64 i] w (ThingIs (textOf [0]) 0 (i+2) false 0 w):=by
 have hbt:=get_bt s
 have hcv:=conv_one w 0 0 rfl
 go_enter Tryz.func228,Tryz.ntmps228
 go_wp2
 refine bodyPost_ret ?_ rfl ⟨rfl,?_⟩
 ·simp [results,Tryz.results228,go_sem]
 ·exact (Below.refl _ w).alloc (Nat.le_refl _) _
set_option maxHeartbeats 1000000 in
theorem resc_b (s:ByteArray) (i:Nat) (w:World) (hz:s.size≤1152921504606846976) (_hi:i<s.size) (h:i+1<s.size) (h1:bt s (i+1)=92) :
  Calls Tryz.prog 228 #[.string s,.int .i64 i] w (ThingIs (textOf [92]) 92 (i+2) false 0 w):=by
 have hbt:=get_bt s
 have hcv:=conv_one w 92 92 rfl
 go_enter Tryz.func228,Tryz.ntmps228
 go_wp2
 refine bodyPost_ret ?_ rfl ⟨rfl,?_⟩
 ·simp [results,Tryz.results228,go_sem]
 ·exact (Below.refl _ w).alloc (Nat.le_refl _) _
set_option maxHeartbeats 1000000 in
theorem resc_q (s:ByteArray) (i:Nat) (w:World) (hz:s.size≤1152921504606846976) (_hi:i<s.size) (h:i+1<s.size) (h1:bt s (i+1)=34) :
  Calls Tryz.prog 228 #[.string s,.int .i64 i] w (ThingIs (textOf [34]) 34 (i+2) false 0 w):=by
 have hbt:=get_bt s
 have hcv:=conv_one w 34 34 rfl
 go_enter Tryz.func228,Tryz.ntmps228
 go_wp2
 refine bodyPost_ret ?_ rfl ⟨rfl,?_⟩
 ·simp [results,Tryz.results228,go_sem]
 ·exact (Below.refl _ w).alloc (Nat.le_refl _) _
set_option maxHeartbeats 1000000 in
theorem resc_a (s:ByteArray) (i:Nat) (w:World) (hz:s.size≤1152921504606846976) (_hi:i<s.size) (h:i+1<s.size) (h1:bt s (i+1)=39) :
  Calls Tryz.prog 228 #[.string s,.int .i64 i] w (ThingIs (textOf [39]) 39 (i+2) false 0 w):=by
 have hbt:=get_bt s
 have hcv:=conv_one w 39 39 rfl
 go_enter Tryz.func228,Tryz.ntmps228
 go_wp2
 refine bodyPost_ret ?_ rfl ⟨rfl,?_⟩
 ·simp [results,Tryz.results228,go_sem]
 ·exact (Below.refl _ w).alloc (Nat.le_refl _) _
set_option maxHeartbeats 1000000 in
theorem resc_x_no (s:ByteArray) (i:Nat) (w:World) (hz:s.size≤1152921504606846976) (_hi:i<s.size) (h:i+1<s.size) (h1:bt s (i+1)=120) (hx:hexW s (i+2) 2 = -1) :
  Calls Tryz.prog 228 #[.string s,.int .i64 i] w (ThingIs ⟨#[]⟩ 0 i false 12 w):=by
 have hbt:=get_bt s
 have HX:=hide_ hx
 clear hx
 go_enter Tryz.func228,Tryz.ntmps228
 go_wp2_with (go_at_call 235;refine (hexes_at s i 2 _ 2 (by omega) rfl _ (by omega) (by omega) hz (-1) HX.out).mono ?_;rintro e w' ⟨rfl,rfl⟩)
 refine bodyPost_ret ?_ rfl ⟨rfl,?_⟩
 ·simp [results,Tryz.results228,go_sem]
 ·exact Below.refl _ _
set_option maxHeartbeats 1000000 in
theorem resc_x_ok (s:ByteArray) (i:Nat) (w:World) (hz:s.size≤1152921504606846976) (_hi:i<s.size) (h:i+1<s.size) (h1:bt s (i+1)=120) (v:Nat) (hx:hexW s (i+2) 2=(v:Int)) (hv:v<256) :
  Calls Tryz.prog 228 #[.string s,.int .i64 i] w (ThingIs (textOf [v]) v (i+4) false 0 w):=by
 have hbt:=get_bt s
 obtain ⟨x,hxx⟩:∃ x:Int,x=(v:Int):=⟨_,rfl⟩
 have hcv:=conv_one w v x hxx
 rw [← hxx] at hx ⊢
 have p1:x % 256=x:=by omega
 have p2:0≤x:=by omega
 have HX:=hide_ hx
 clear hx
 clear hxx hv
 go_enter Tryz.func228,Tryz.ntmps228
 go_wp2_with (go_at_call 235;refine (hexes_at s i 2 _ 2 (by omega) rfl _ (by omega) (by omega) hz x HX.out).mono ?_;rintro e w' ⟨rfl,rfl⟩)
 refine bodyPost_ret ?_ rfl ⟨rfl,?_⟩
 ·simp [results,Tryz.results228,go_sem]
 ·exact (Below.refl _ w).alloc (Nat.le_refl _) _
set_option maxHeartbeats 1000000 in
theorem resc_u_no (s:ByteArray) (i:Nat) (w:World) (hz:s.size≤1152921504606846976) (_hi:i<s.size) (h:i+1<s.size) (h1:bt s (i+1)=117) (x:Int) (hx:hexW s (i+2) 4=x) (hb:x<0∨1114111<x∨(55296≤x∧x≤57343)) :
  Calls Tryz.prog 228 #[.string s,.int .i64 i] w (ThingIs ⟨#[]⟩ 0 i false 12 w):=by
 have hbt:=get_bt s
 have HX:=hide_ hx
 clear hx
 have HB:=hide_ hb
 clear hb
 go_enter Tryz.func228,Tryz.ntmps228
 go_wp2_with (first | (go_at_call 235;refine (hexes_at s i 4 _ 4 (by omega) rfl _ (by omega) (by omega) hz x HX.out).mono ?_;rintro e w' ⟨rfl,rfl⟩) | (go_at_call 236;refine (Code_no x _ HB.out).mono ?_;rintro e w' ⟨rfl,rfl⟩))
 refine bodyPost_ret ?_ rfl ⟨rfl,?_⟩
 ·simp [results,Tryz.results228,go_sem]
 ·exact Below.refl _ _
set_option maxHeartbeats 1000000 in
theorem resc_u_ok (s:ByteArray) (i:Nat) (w:World) (hz:s.size≤1152921504606846976) (_hi:i<s.size) (h:i+1<s.size) (h1:bt s (i+1)=117) (v:Nat) (hx:hexW s (i+2) 4=(v:Int)) (hr:isRune v) :
  Calls Tryz.prog 228 #[.string s,.int .i64 i] w (ThingIs (textOf (codeL v)) v (i+6) false 0 w):=by
 have hbt:=get_bt s
 have HX:=hide_ hx
 clear hx
 have HR:=hide_ hr
 clear hr
 go_enter Tryz.func228,Tryz.ntmps228
 go_wp2_with (first | (go_at_call 235;refine (hexes_at s i 4 _ 4 (by omega) rfl _ (by omega) (by omega) hz (v:Int) HX.out).mono ?_;rintro e w' ⟨rfl,rfl⟩) | (go_at_call 236;refine (Code_any v _ HR.out).mono ?_;rintro e w' ⟨rfl,hbel⟩))
 refine bodyPost_ret ?_ rfl ⟨rfl,?_⟩
 ·simp [results,Tryz.results228,go_sem]
 ·exact hbel
set_option maxHeartbeats 1000000 in
theorem resc_other (s:ByteArray) (i:Nat) (w:World) (hz:s.size≤1152921504606846976) (_hi:i<s.size) (h:i+1<s.size) (n110:bt s (i+1)≠110) (n116:bt s (i+1)≠116) (n114:bt s (i+1)≠114) (n48:bt s (i+1)≠48) (n92:bt s (i+1)≠92) (n34:bt s (i+1)≠34) (n39:bt s (i+1)≠39) (n120:bt s (i+1)≠120) (n117:bt s (i+1)≠117) :
  Calls Tryz.prog 228 #[.string s,.int .i64 i] w (ThingIs ⟨#[]⟩ 0 i false 12 w):=by
 have hbt:=get_bt s
 go_enter Tryz.func228,Tryz.ntmps228
 go_wp2
 refine bodyPost_ret ?_ rfl ⟨rfl,?_⟩
 ·simp [results,Tryz.results228,go_sem]
 ·exact Below.refl _ _
def escB (c:Int) (b:Bool):List Nat:=if b then [c.toNat] else codeL c.toNat
theorem rescape_any (s:ByteArray) (i:Nat) (w:World) (hz:s.size≤1152921504606846976) (hi:i<s.size) :
  Calls Tryz.prog 228 #[.string s,.int .i64 i] w fun e w'=>((escN s i=none∧ThingIs ⟨#[]⟩ 0 i false 12 w e w')∨∃ c b,∃ k:Nat,escN s i=some (c,b,k)∧ThingIs (textOf (escB c b)) c ((i+k:Nat):Int) false 0 w e w'):=by
 by_cases h:s.size≤i+1
 ·refine (resc_short s i w hz hi h).mono fun e w' ho=>.inl ⟨by unfold escN;rw [if_pos h],ho⟩
 have hb:=bt_eq s (i+1) (by omega)
 have e0:escN s i=(if bn s (i+1)=110 then (some (10,true,2):Option (Int × Bool × Nat))
  else if bn s (i+1)=116 then some (9,true,2)
  else if bn s (i+1)=114 then some (13,true,2)
  else if bn s (i+1)=48 then some (0,true,2)
  else if bn s (i+1)=92∨bn s (i+1)=34∨bn s (i+1)=39 then some (bn s (i+1),true,2)
  else if bn s (i+1)=120 then (if hexW s (i+2) 2<0 then none else some (hexW s (i+2) 2,true,4))
  else if bn s (i+1)=117 then (if hexW s (i+2) 4<0∨(55296≤hexW s (i+2) 4∧hexW s (i+2) 4≤57343) then none else some (hexW s (i+2) 4,false,6))
  else none):=by unfold escN;rw [if_neg h]
 rw [e0]
 have hx2:=hexW_bd s (i+2) 2
 have hx4:=hexW_bd s (i+2) 4
 have e16:(16:Int) ^ 2=256:=by decide
 have e64:(16:Int) ^ 4=65536:=by decide
 rw [e16] at hx2
 rw [e64] at hx4
 have h':i+1<s.size:=by omega
 by_cases c110:bn s (i+1)=110
 ·refine (resc_n s i w hz hi h' (by omega)).mono fun e w' ho=>.inr ⟨10,true,2,by rw [if_pos c110],ho⟩
 by_cases c116:bn s (i+1)=116
 ·refine (resc_t s i w hz hi h' (by omega)).mono fun e w' ho=>.inr ⟨9,true,2,by rw [if_neg c110,if_pos c116],ho⟩
 by_cases c114:bn s (i+1)=114
 ·refine (resc_r s i w hz hi h' (by omega)).mono fun e w' ho=>.inr ⟨13,true,2,by rw [if_neg c110,if_neg c116,if_pos c114],ho⟩
 by_cases c48:bn s (i+1)=48
 ·refine (resc_z s i w hz hi h' (by omega)).mono fun e w' ho=>.inr ⟨0,true,2,by rw [if_neg c110,if_neg c116,if_neg c114,if_pos c48],ho⟩
 by_cases c92:bn s (i+1)=92
 ·refine (resc_b s i w hz hi h' (by omega)).mono fun e w' ho=>.inr ⟨92,true,2,by rw [if_neg c110,if_neg c116,if_neg c114,if_neg c48,if_pos (by omega),c92];rfl,ho⟩
 by_cases c34:bn s (i+1)=34
 ·refine (resc_q s i w hz hi h' (by omega)).mono fun e w' ho=>.inr ⟨34,true,2,by rw [if_neg c110,if_neg c116,if_neg c114,if_neg c48,if_pos (by omega),c34];rfl,ho⟩
 by_cases c39:bn s (i+1)=39
 ·refine (resc_a s i w hz hi h' (by omega)).mono fun e w' ho=>.inr ⟨39,true,2,by rw [if_neg c110,if_neg c116,if_neg c114,if_neg c48,if_pos (by omega),c39];rfl,ho⟩
 by_cases c120:bn s (i+1)=120
 ·by_cases hx:hexW s (i+2) 2<0
  ·refine (resc_x_no s i w hz hi h' (by omega) (by omega)).mono fun e w' ho=>.inl ⟨by rw [if_neg c110,if_neg c116,if_neg c114,if_neg c48,if_neg (show ¬ (bn s (i+1)=92∨bn s (i+1)=34∨bn s (i+1)=39) by omega),if_pos c120,if_pos hx],ho⟩
  ·obtain ⟨v,hv⟩:∃ v:Nat,hexW s (i+2) 2=(v:Int):=⟨(hexW s (i+2) 2).toNat,by omega⟩
   refine (resc_x_ok s i w hz hi h' (by omega) v hv (by omega)).mono fun e w' ho=>.inr ⟨(v:Int),true,4,by rw [if_neg c110,if_neg c116,if_neg c114,if_neg c48,if_neg (show ¬ (bn s (i+1)=92∨bn s (i+1)=34∨bn s (i+1)=39) by omega),if_pos c120,if_neg hx,hv],ho⟩
 by_cases c117:bn s (i+1)=117
 ·by_cases hx:hexW s (i+2) 4<0∨(55296≤hexW s (i+2) 4∧hexW s (i+2) 4≤57343)
  ·refine (resc_u_no s i w hz hi h' (by omega) _ rfl (by omega)).mono fun e w' ho=>.inl ⟨by rw [if_neg c110,if_neg c116,if_neg c114,if_neg c48,if_neg (show ¬ (bn s (i+1)=92∨bn s (i+1)=34∨bn s (i+1)=39) by omega),if_neg c120,if_pos c117,if_pos hx],ho⟩
  ·obtain ⟨v,hv⟩:∃ v:Nat,hexW s (i+2) 4=(v:Int):=⟨(hexW s (i+2) 4).toNat,by omega⟩
   refine (resc_u_ok s i w hz hi h' (by omega) v hv (by unfold isRune;omega)).mono fun e w' ho=>.inr ⟨(v:Int),false,6,by rw [if_neg c110,if_neg c116,if_neg c114,if_neg c48,if_neg (show ¬ (bn s (i+1)=92∨bn s (i+1)=34∨bn s (i+1)=39) by omega),if_neg c120,if_pos c117,if_neg hx,hv],ho⟩
 refine (resc_other s i w hz hi h' (by omega) (by omega) (by omega) (by omega) (by omega) (by omega) (by omega) (by omega) (by omega)).mono fun e w' ho=>.inl ⟨by rw [if_neg c110,if_neg c116,if_neg c114,if_neg c48,if_neg (show ¬ (bn s (i+1)=92∨bn s (i+1)=34∨bn s (i+1)=39) by omega),if_neg c120,if_neg c117],ho⟩
end Go.Proofs.YtikbegmodacopaaGreatDoor
