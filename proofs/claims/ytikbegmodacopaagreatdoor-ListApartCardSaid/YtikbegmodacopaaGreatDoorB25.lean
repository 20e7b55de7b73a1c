/-
  Joined and packed by program.
-/
import Derived.Test.YtikbegmodacopaaGreatDoorB24
import Derived.Test.YtikbegmodacopaaGreatDoorB07
import Derived.Test.YtikbegmodacopaaGreatDoorB01
import Derived.Test.YtikbegmodacopaaGreatDoorB03
namespace Go.Proofs.YtikbegmodacopaaGreatDoor
open Go.RowKit Go.PlainAid Go.BigFrame
set_option linter.unusedSimpArgs false
set_option linter.unusedVariables false
set_option maxRecDepth 100000
theorem smp_beg:begB smpI=true:=by decide +kernel
theorem smp_plc:plc smpI=[0,1,5]:=(plc_eq smp_ok smp_beg).trans (by decide +kernel)
def smpO:ObjV:=⟨smpI.code.map (codP 7),[],4,64,[0,1,5].map labP,fixF smpI 7,[5].map natS,smpI.names.map entP⟩
theorem smp_obj:objO smpI=smpO:=by unfold objO;rw [smp_plc];rfl
theorem smp_oe:objE smpI=0:=by unfold objE;rw [smp_plc,if_neg (by decide +kernel),if_neg (by decide +kernel),if_neg (by decide)]
theorem smp_txt:txtS smpI=⟨(([99,111,100,101,10,97,116,48,58,10,9,101,110,116,101,114,32,56,10,97,116,49,58,10,9,99,111,110,115,116,32,48,10].append [9,99,111,110,115,116,32,49,10,9,101,113,32,97,116,53,10,9,103,111,116,111,32,97,116,49,10,97,116,53,58,10,9,99]).append ([111,110,115,116,32,55,10,9,108,101,97,118,101,32,56,10,122,101,114,111,10,9,115,112,97,99,101,32,52,10,115,116,97,99].append [107,32,54,52,10,116,97,114,103,101,116,32,97,116,53,10,101,110,116,114,121,32,34,109,97,105,110,34,44,32,97,116,48,10])).toArray⟩:=by
 rw [txtS,if_pos smp_oe,smp_obj]
 decide +kernel
theorem smp_err:txtE smpI=0:=by
 rw [txtE,if_pos smp_oe,smp_obj]
 decide +kernel
theorem awk_line:lineS 8 4294967295=⟨#[99,111,110,115,116,32,45,49]⟩:=by decide +kernel
theorem awk_chk:opChk 8 4294967295=0:=by decide +kernel
set_option maxHeartbeats 4000000 in
theorem awake_any (w:World) (hT:TabOk w):Calls Tryz.prog 18 #[] w fun e w'=>e=.returned (.bool true)∧Below w.heap.size w w':=by
 have HS:=hide_ (fun w=>sample_any w)
 have HT:=hide_ (fun W (hb:Below w.heap.size w W)=>hT.below hb)
 have HX:=hide_ (fun s W (hr:ImgR W W.heap.size smpI s) (hb:Below w.heap.size w W)=>lText_any smpI s W smp_ok hr (HT.out W hb))
 have HL:=hide_ (fun W (hb:Below w.heap.size w W)=>Line_any 8 4294967295 (by decide) (by decide) (by decide) (by decide) W (HT.out W hb))
 rw [awk_line,awk_chk] at HL
 clear hT
 go_enter Tryz.func18,Tryz.ntmps18
 go_wp2_with fail
 refine (HS.out _).mono ?_
 rintro e w1 ⟨s,rfl,hr,hb1⟩
 have TX:=hide_ (HX.out s w1 hr hb1)
 unfold TxtIs at TX
 rw [smp_txt,smp_err] at TX
 have HB1:=hide_ hb1
 clear hr hb1 HX HS
 unfold imgV at TX ⊢
 go_wp2_with fail
 refine TX.out.mono ?_
 rintro e w2 ⟨rfl,hb2⟩
 have HB2:=hide_ (HB1.out.trans (hb2.mono HB1.out.size))
 clear hb2 TX
 go_wp2_with fail
 refine (HL.out w2 HB2.out).mono ?_
 rintro e w3 ⟨rfl,hb3⟩
 have HB3:=hide_ (HB2.out.trans (hb3.mono HB2.out.size))
 clear hb3
 go_wp2_with fail
 exact bodyPost_ret (v:=.bool true) (by simp [results,Tryz.results18,go_sem]) rfl ⟨rfl,HB3.out⟩
end Go.Proofs.YtikbegmodacopaaGreatDoor
namespace Go.Proofs.YtikbegmodacopaaGreatDoor
set_option maxRecDepth 100000
open Go.RowKit Go.PlainAid
set_option linter.unusedSimpArgs false
set_option linter.unusedVariables false
def bA (b:List Int) (i:Nat):Int:=b[i]?.getD 0
def opdJ (b:List Int) (i w:Nat):Nat→Int
 | 0=>0
 | j+1=>opdJ b i w j * 256+bA b (i+(w - j))
def rdW (b:List Int) (i:Nat):Nat:=(opR (bA b i)).width
def rdA (b:List Int) (i:Nat):Int:=opdJ b i (rdW b i) (rdW b i)
def rdE (b:List Int) (i:Nat):Int:=if opOk (bA b i)=false then 70 else if b.length<i+1+rdW b i then 72 else if ((opR (bA b i)).most:Int)<rdA b i then 71 else 0
structure StpV where
 at_:Nat
 op:Int
 arg:Int
def stepsF (b:List Int):Nat→Nat→List StpV
 | 0,_=>[]
 | f+1,i=>if i<b.length∧rdE b i=0 then ⟨i,bA b i,rdA b i⟩ :: stepsF b f (i+(1+rdW b i)) else []
def steps (b:List Int):List StpV:=stepsF b 16384 0
def isBytes (b:List Int):Prop:=∀ x ∈ b,0≤x∧x≤255
theorem bA_byte {b:List Int} (hb:isBytes b) (i:Nat):0≤bA b i∧bA b i≤255:=by
 unfold bA
 cases h:b[i]? with
 | none=>simp
 | some x=>exact hb x (List.mem_of_getElem? h)
theorem wid_le:∀ r ∈ opRows,r.width≤4:=by decide
theorem opR_wid (op:Int):(opR op).width≤4:=by
 unfold opR
 split
 ·unfold opRow
  rw [List.getD_eq_getElem?_getD]
  cases h:opRows[op.toNat]? with
  | none=>simp
  | some r=>exact wid_le r (List.mem_of_getElem? h)
 ·simp
theorem rdW_le (b:List Int) (i:Nat):rdW b i≤4:=opR_wid _
theorem opdJ_bd {b:List Int} (hb:isBytes b) (i w:Nat):∀ j,0≤opdJ b i w j∧opdJ b i w j<(256 ^ j:Nat)
 | 0=>by simp [opdJ]
 | j+1=>by
  obtain ⟨h0,h1⟩:=opdJ_bd hb i w j
  obtain ⟨h2,h3⟩:=bA_byte hb (i+(w - j))
  unfold opdJ
  rw [Nat.pow_succ]
  constructor <;> omega
theorem rdA_bd {b:List Int} (hb:isBytes b) (i:Nat):0≤rdA b i∧rdA b i<4294967296:=by
 obtain ⟨h0,h1⟩:=opdJ_bd hb i (rdW b i) (rdW b i)
 have h2:=rdW_le b i
 have h3:256 ^ rdW b i≤256 ^ 4:=Nat.pow_le_pow_right (by omega) h2
 unfold rdA
 constructor
 ·exact h0
 ·have:(256:Nat) ^ 4=4294967296:=by decide
  omega
theorem rdE_ok {b:List Int} {i:Nat} (h:rdE b i=0):opOk (bA b i)=true∧i+1+rdW b i≤b.length∧rdA b i≤((opR (bA b i)).most:Int):=by
 unfold rdE at h
 split at h
 ·cases h
 ·split at h
  ·cases h
  ·split at h
   ·cases h
   ·rename_i h1 h2 h3
    exact ⟨by simpa using h1,by omega,by omega⟩
theorem rdE_chk {b:List Int} {i:Nat} (h:rdE b i=0):opChk (bA b i) (rdA b i)=0:=by
 obtain ⟨h1,_,h3⟩:=rdE_ok h
 unfold opChk
 rw [if_pos h1,if_neg (by omega)]
def StpOk (b:List Int) (s:StpV):Prop:=0≤s.op∧s.op≤255∧0≤s.arg∧s.arg<4294967296∧opChk s.op s.arg=0∧s.at_+(1+(opR s.op).width)≤b.length
theorem stepsF_ok {b:List Int} (hb:isBytes b):∀ (f i:Nat) (s:StpV),s ∈ stepsF b f i→StpOk b s
 | 0,_,s,h=>by simp [stepsF] at h
 | f+1,i,s,h=>by
  unfold stepsF at h
  split at h
  ·rename_i hc
   rcases List.mem_cons.1 h with rfl | h
   ·obtain ⟨h0,h1⟩:=bA_byte hb i
    obtain ⟨h2,h3⟩:=rdA_bd hb i
    have:=(rdE_ok hc.2).2.1
    refine ⟨h0,h1,h2,h3,rdE_chk hc.2,?_⟩
    show i+(1+rdW b i)≤_
    omega
   ·exact stepsF_ok hb f _ s h
  ·simp at h
theorem stepsF_len (b:List Int):∀ (f i:Nat),(stepsF b f i).length≤f
 | 0,_=>by simp [stepsF]
 | f+1,i=>by
  unfold stepsF
  split
  ·have:=stepsF_len b f (i+(1+rdW b i))
   simp
   omega
  ·simp
end Go.Proofs.YtikbegmodacopaaGreatDoor
namespace Go.Proofs.YtikbegmodacopaaGreatDoor
set_option maxRecDepth 100000
open Go.RowKit Go.PlainAid
set_option linter.unusedSimpArgs false
set_option linter.unusedVariables false
def xdN (n:Nat):ByteArray:=if n<16 then hxT n else xdN (n / 16) ++ hxT (n % 16)
def zerT (k:Nat):ByteArray:=⟨Array.replicate k 48⟩
theorem zerT_size (k:Nat):(zerT k).size=k:=by simp [zerT,ByteArray.size]
theorem xdN_small {n:Nat} (h:n<16):xdN n=hxT n:=by rw [xdN,if_pos h]
theorem xdN_big {n:Nat} (h:¬ n<16):xdN n=xdN (n / 16) ++ hxT (n % 16):=by rw [xdN,if_neg h]
def xdS (least n:Nat):ByteArray:=zerT (least - (xdN n).size) ++ xdN n
theorem hxT_zero:hxT 0=zerT 1:=rfl
theorem zerT_add (a b:Nat):zerT a ++ zerT b=zerT (a+b):=by
 apply ByteArray.ext
 simp [zerT]
theorem xdN_pos (n:Nat):1≤(xdN n).size:=by
 by_cases h:n<16
 ·rw [xdN_small h,hxT_size];omega
 ·rw [xdN_big h,ByteArray.size_append,hxT_size];omega
theorem app_assoc (a b c:ByteArray):a ++ b ++ c=a ++ (b ++ c):=by apply ByteArray.ext;simp
theorem dgW_xd (least:Nat):∀ (f y:Nat) (S:ByteArray),y+(least - S.size)≤f→dgW 16 least f y S=if y=0 then zerT (least - S.size) ++ S else zerT (least - ((xdN y).size+S.size)) ++ (xdN y ++ S)
 | 0,y,S,h=>by
  rw [if_pos (by omega),show least - S.size=0 by omega]
  apply ByteArray.ext
  simp [dgW,zerT]
 | f+1,y,S,h=>by
  rw [dgW]
  by_cases h0:y=0
  ·subst h0
   rw [if_pos rfl]
   by_cases hs:S.size<least
   ·rw [if_pos (by omega),dgW_xd least f _ _ (by rw [ByteArray.size_append,hxT_size];omega)]
    simp only [Nat.zero_div,Nat.zero_mod,if_true,ByteArray.size_append,hxT_size,hxT_zero]
    rw [← app_assoc,zerT_add,zerT_size,show least - (1+S.size)+1=least - S.size by omega]
   ·rw [if_neg (by omega),show least - S.size=0 by omega]
    apply ByteArray.ext
    simp [zerT]
  ·rw [if_neg h0,if_pos (by omega),dgW_xd least f _ _ (by rw [ByteArray.size_append,hxT_size];omega)]
   by_cases h1:y<16
   ·rw [if_pos (by omega),xdN_small h1,Nat.mod_eq_of_lt h1,ByteArray.size_append]
   ·rw [if_neg (by omega),xdN_big h1,ByteArray.size_append,ByteArray.size_append,hxT_size,app_assoc,Nat.add_assoc]
theorem xd_hxT (n:Nat) (h:n=0):xdN n=zerT 1:=by subst h;rw [xdN_small (by omega)];rfl
theorem dgW_xdS (least n:Nat) (h:1≤least):dgW 16 least (n+least) n e0C=xdS least n:=by
 rw [dgW_xd least _ _ _ (by show _+(least - 0)≤_;omega)]
 unfold xdS
 have e:e0C.size=0:=rfl
 by_cases h0:n=0
 ·rw [if_pos h0,xd_hxT n h0,zerT_size,e,zerT_add]
  rw [show least - 1+1=least - 0 by omega]
  apply ByteArray.ext
  simp [e0C]
 ·rw [if_neg h0,e]
  apply ByteArray.ext
  simp [e0C]
theorem xdN_size:∀ (k n:Nat),1≤k→n<16 ^ k→(xdN n).size≤k
 | 0,_,h,_=>absurd h (by omega)
 | k+1,n,_,h=>by
  by_cases h1:n<16
  ·rw [xdN_small h1,hxT_size];omega
  ·rw [xdN_big h1,ByteArray.size_append,hxT_size]
   have hk:1≤k:=by
    rcases Nat.eq_zero_or_pos k with rfl | h2
    ·simp at h;omega
    ·exact h2
   have:=xdN_size k (n / 16) hk (by rw [Nat.pow_succ] at h;omega)
   omega
theorem xdS_size (least n:Nat) (h1:1≤least) (h:n<16 ^ least):(xdS least n).size=least:=by
 unfold xdS
 have:=xdN_size least n h1 h
 rw [ByteArray.size_append,zerT_size]
 omega
def prS (l:List Int):List ByteArray:=l.map fun x=>xdS 2 x.toNat
def prB (l:List Int):ByteArray:=catL (l.map fun x=>⟨#[32]⟩ ++ xdS 2 x.toNat)
def blT (k:Nat):ByteArray:=⟨Array.replicate k 32⟩
theorem blT_size (k:Nat):(blT k).size=k:=by simp [blT,ByteArray.size]
def rowH (at_:Nat) (l:List Int):ByteArray:=xdS 6 at_ ++ ⟨#[32]⟩ ++ prB l
def rowS (at_:Nat) (l:List Int) (what:ByteArray):ByteArray :=
 rowH at_ l ++ (if what.size=0 then e0C else blT (24 - (rowH at_ l).size) ++ what) ++ ⟨#[10]⟩
def cutB (b:List Int) (i n:Nat):List Int:=(b.drop i).take n
def stW (s:StpV):Nat:=1+(opR s.op).width
def stepRow (b:List Int) (s:StpV):ByteArray:=rowS s.at_ (cutB b s.at_ (stW s)) (lineS s.op s.arg)
def stEnd (l:List StpV):Nat:=match l.getLast? with
 | none=>0
 | some s=>s.at_+stW s
def tailF (b:List Int):Nat→Nat→List ByteArray
 | 0,_=>[]
 | f+1,i=>if i<b.length then rowS i (cutB b i (min 8 (b.length - i))) e0C :: tailF b f (i+min 8 (b.length - i)) else []
def dumpL (b:List Int):List ByteArray:=(steps b).map (stepRow b) ++ tailF b b.length (stEnd (steps b))
def dumpS (b:List Int):ByteArray:=if 65536<b.length then e0C else catL (dumpL b)
def dumpE (b:List Int):Int:=if 65536<b.length then 122 else 0
theorem catL_nil:catL []=e0C:=rfl
theorem catL_snoc (l:List ByteArray) (x:ByteArray):catL (l ++ [x])=catL l ++ x:=by apply ByteArray.ext;simp [catL]
theorem catL_app (l m:List ByteArray):catL (l ++ m)=catL l ++ catL m:=by apply ByteArray.ext;simp [catL]
theorem catL_cons (x:ByteArray) (l:List ByteArray):catL (x :: l)=x ++ catL l:=by apply ByteArray.ext;simp [catL]
theorem catL_len (k:Nat):∀ l:List ByteArray,(∀ x ∈ l,x.size≤k)→(catL l).size≤l.length * k
 | [],_=>by simp [catL_nil];rfl
 | x :: l,h=>by
  rw [catL_cons,ByteArray.size_append,List.length_cons,Nat.succ_mul]
  have:=catL_len k l (fun y hy=>h y (by simp [hy]))
  have:=h x (by simp)
  omega
theorem prB_snoc (l:List Int) (x:Int):prB (l ++ [x])=prB l ++ (⟨#[32]⟩ ++ xdS 2 x.toNat):=by unfold prB;rw [List.map_append,List.map_cons,List.map_nil,catL_snoc]
theorem join_sp:∀ (x:Int) (l:List Int),(⟨#[32]⟩:ByteArray) ++ ⟨(Lib.join (((prS (x :: l))).map (·.data.toList)) [32]).toArray⟩=prB (x :: l)
 | x,l=>by
  unfold prS prB
  have h:∀ l:List Int,Lib.joinTail [32] ((l.map fun x=>xdS 2 x.toNat).map (·.data.toList))=(l.map fun x=>(⟨#[32]⟩:ByteArray) ++ xdS 2 x.toNat).flatMap (·.data.toList):=by
   intro l
   unfold Lib.joinTail
   rw [List.flatMap_def,List.map_map,List.map_map,List.map_map]
   congr 1
  rw [List.map_cons,List.map_cons,Lib.join_cons,h,List.map_cons,catL,List.flatMap_cons]
  apply ByteArray.ext
  simp
theorem prB_size {l:List Int} (h:isBytes l):(prB l).size=3 * l.length:=by
 unfold prB
 induction l with
 | nil=>rfl
 | cons x l ih =>
  rw [List.map_cons,catL_cons,ByteArray.size_append,ByteArray.size_append,ih (fun y hy=>h y (by simp [hy])),xdS_size 2 _ (by omega) (by have:=h x (by simp);omega),List.length_cons]
  show 1+2+_=_
  omega
theorem isBytes_cut {b:List Int} (h:isBytes b) (i n:Nat):isBytes (cutB b i n):=fun x hx=>h x (List.mem_of_mem_drop (List.mem_of_mem_take hx))
theorem rowH_size {l:List Int} (h:isBytes l) {i:Nat} (hi:i<16777216):(rowH i l).size=7+3 * l.length:=by
 unfold rowH
 rw [ByteArray.size_append,ByteArray.size_append,xdS_size 6 i (by omega) hi,prB_size h]
 rfl
theorem sgnT_short {x:Int} (h0:0≤x) (h1:x<4294967296):(sgnT x).size≤21:=by
 by_cases h:2147483648≤x
 ·rw [sgnT_neg h h1,ByteArray.size_append]
  have:=decT_size (4294967296 - x).toNat (by omega)
  unfold decT at this
  show 1+_≤_
  omega
 ·rw [sgnT_pos h0 h]
  have:=decT_size x.toNat (by omega)
  unfold decT at this
  omega
theorem words_len8:∀ r ∈ opRows,r.w.length≤8:=by decide
theorem opR_len8 (op:Int):(opR op).w.length≤8:=by
 unfold opR
 split
 ·unfold opRow
  rw [List.getD_eq_getElem?_getD]
  cases h:opRows[op.toNat]? with
  | none=>simp
  | some r=>exact words_len8 r (List.mem_of_getElem? h)
 ·simp
theorem lineS_short (op:Int) {arg:Int} (h0:0≤arg) (h1:arg<4294967296):(lineS op arg).size≤30:=by
 have h2:=opR_len8 op
 have h3:=sgnT_short h0 h1
 unfold lineS
 split
 ·show 0≤_;omega
 ·split
  ·simp [ByteArray.size];omega
  ·rw [ByteArray.size_append,ByteArray.size_append]
   show (opR op).w.toArray.size+1+_≤_
   rw [List.size_toArray]
   omega
theorem rowS_size {l:List Int} (h:isBytes l) {i:Nat} (hi:i<16777216) (hl:l.length≤8) {what:ByteArray} (hw:what.size≤30):(rowS i l what).size≤100:=by
 unfold rowS
 rw [ByteArray.size_append,ByteArray.size_append,rowH_size h hi]
 show _+_+1≤_
 split
 ·show _+0+1≤_
  omega
 ·rw [ByteArray.size_append,blT_size]
  omega
theorem cutB_len (b:List Int) (i n:Nat) (h:i+n≤b.length):(cutB b i n).length=n:=by unfold cutB;simp;omega
theorem stepRow_size {b:List Int} (hb:isBytes b) (hl:b.length≤65536) {s:StpV} (h:StpOk b s):(stepRow b s).size≤100:=by
 obtain ⟨h0,h1,h2,h3,h4,h5⟩:=h
 have h6:=opR_wid s.op
 refine rowS_size (isBytes_cut hb _ _) (by omega) ?_ (lineS_short _ h2 h3)
 rw [stW,cutB_len b _ _ h5]
 omega
theorem tailF_size {b:List Int} (hb:isBytes b) (hl:b.length≤65536):∀ (f i:Nat),∀ x ∈ tailF b f i,x.size≤100
 | 0,_,x,h=>by simp [tailF] at h
 | f+1,i,x,h=>by
  unfold tailF at h
  split at h
  ·rcases List.mem_cons.1 h with rfl | h
   ·refine rowS_size (isBytes_cut hb _ _) (by omega) ?_ (by show 0≤_;omega)
    rw [cutB_len b _ _ (by omega)]
    omega
   ·exact tailF_size hb hl f _ x h
  ·simp at h
theorem tailF_ge {b:List Int}:∀ {i:Nat} (f:Nat),b.length≤i→tailF b f i=[]
 | _,0,_=>rfl
 | i,f+1,h=>by unfold tailF;rw [if_neg (by omega)]
theorem tailF_len (b:List Int):∀ (f i:Nat),(tailF b f i).length≤f
 | 0,_=>by simp [tailF]
 | f+1,i=>by
  unfold tailF
  split
  ·have:=tailF_len b f (i+min 8 (b.length - i))
   simp
   omega
  ·simp
theorem stEnd_le {b:List Int} (hb:isBytes b):stEnd (steps b)≤b.length:=by
 unfold stEnd
 cases h:(steps b).getLast? with
 | none=>simp
 | some s=>exact (stepsF_ok hb _ _ s (List.mem_of_getLast? h)).2.2.2.2.2
theorem stEnd_snoc (l:List StpV) (s:StpV):stEnd (l ++ [s])=s.at_+stW s:=by unfold stEnd;simp
end Go.Proofs.YtikbegmodacopaaGreatDoor
namespace Go.Proofs.YtikbegmodacopaaGreatDoor
open Go.RowKit Go.PlainAid Go.Shelf Go.BigFrame
set_option linter.unusedSimpArgs false
set_option linter.unusedVariables false
set_option maxRecDepth 100000
def insC (op arg:Int):Array Value:=#[.int .u8 op,.int .u32 arg]
def zI:Array Value:=#[.int .u8 0,.int .u32 0]
def rdV (b:List Int) (i:Nat):Array Value:=if rdE b i=0 then #[.int .u8 (bA b i),.int .u32 (rdA b i)] else zI
def rdN (b:List Int) (i:Nat):Nat:=if rdE b i=0 then 1+rdW b i else 0
theorem u8s_at {b:List Int} {i:Nat} (h:i<b.length) {u:Value} (hu:(u8s b)[i]?=some u):u=.int .u8 (bA b i):=by
 have:=get_map (Value.int .u8) b 0 i h hu
 exact this
theorem result_cell3 {fn:Func} {p u x:Tmp} {ty:TypeId} (h:fn.results=#[.cell p ty,.tmp u,.tmp x]) (tmps:Array Value) (P:Program) (w:World) (g:Nat) (cs:Array Value) (v v':Value)
  (hp:tmps.getD p undef=.pointer (some ⟨g,0,none⟩)) (hv:tmps.getD u undef=v) (hx:tmps.getD x undef=v') (hl:(loadVar ty ⟨g,0,none⟩).run P w=.ok (.agg cs) w) :
  (results fn tmps).run P w=.ok (.tuple #[.agg cs,v,v']) w:=by
 have hp':tmps[p]?.getD undef=.pointer (some ⟨g,0,none⟩):=by simpa using hp
 have hv':tmps[u]?.getD undef=v:=by simpa using hv
 have hx':tmps[x]?.getD undef=v':=by simpa using hx
 simp [results,h,hp',hv',hx',asAddr,hl]
theorem ins_info (cs:Array Value) (h:cs.size=2):(Tryz.prog.info? 66).map (·.size)=some cs.size:=by rw [h];kernel_rfl
theorem ins_load {W:World} {g:Nat} {cs:Array Value} (h:Blk W g 66 cs) (hs:cs.size=2):(loadVar 66 ⟨g,0,none⟩).run Tryz.prog W=.ok (.agg cs) W :=
 run_loadVar_row _ _ _ _ _ _ _ h Tryz.underlying66 rfl (ins_info cs hs)
theorem insC_one (op arg:Int):(insC op arg).all (·.oneCell')=true:=by simp [insC,Value.oneCell']
theorem u32_shl8_or (x y:Int) (hx:0≤x) (hx':x<16777216) (h0:0≤y) (h1:y≤255):bits .or .u32 (x * 256) y=x * 256+y :=
 bits_join .u32 32 (by decide) (fun n h0 h1=>by simp only [IntKind.wrap_u32];omega) 8 (x * 256) y (by omega) (by omega) (by omega) h0 (by omega) (by omega)
set_option maxHeartbeats 4000000 in
theorem read_any (A:Option Addr) (n c i:Nat) (b:List Int) (w:World) (hr:Reads w w.heap.size 1 A n (u8s b)) (hn:n≤140737488351232) (hb:isBytes b) (hi:i<n) :
  Calls Tryz.prog 128 #[.slice A n c,.int .i64 i] w fun e w'=>e=.returned (.tuple #[.agg (rdV b i),.int .i64 (rdN b i),.int .i64 (rdE b i)])∧Below w.heap.size w w':=by
 have la:b.length=n:=by simpa using hr.1
 obtain ⟨ad,u,rfl,hadb,hu,hc⟩:=hr.at_ hi
 obtain rfl:=u8s_at (by omega) hu
 have hc:=(World.cell?_alloc_lt w (.cells zI 66) (ad.add i) (by rw [block_of_add];exact hadb)).trans hc
 unfold zI at hc
 obtain ⟨V,hV⟩:∃ V,V=rdV b i:=⟨_,rfl⟩
 obtain ⟨N,hN⟩:∃ N,N=rdN b i:=⟨_,rfl⟩
 obtain ⟨E,hE⟩:∃ E,E=rdE b i:=⟨_,rfl⟩
 rw [← hV,← hN,← hE]
 have HBAD:=hide_ (fun (k:Int) (hk:k≠0) (he:rdE b i=k)=>show Ending.returned (.tuple #[.agg (insC 0 0),.int .i64 0,.int .i64 k])=.returned (.tuple #[.agg V,.int .i64 (N:Nat),.int .i64 E]) by
  rw [hV,hN,hE,rdV,rdN,he,if_neg hk,if_neg hk]
  rfl)
 have HGOOD:=hide_ (fun (he:rdE b i=0)=>show Ending.returned (.tuple #[.agg (insC (bA b i) (rdA b i)),.int .i64 (1+(rdW b i:Nat)),.int .i64 0])=.returned (.tuple #[.agg V,.int .i64 (N:Nat),.int .i64 E]) by
  rw [hV,hN,hE,rdV,rdN,he,if_pos rfl,if_pos rfl]
  push_cast
  rfl)
 clear hV hN hE
 have HI:=hide_ (fun w=>Info_any (bA b i) w)
 have hwid:=opR_wid (bA b i)
 have HE:=hide_ (show rdE b i=if opOk (bA b i)=false then 70 else if b.length<i+1+rdW b i then 72 else if ((opR (bA b i)).most:Int)<rdA b i then 71 else 0 from rfl)
 by_cases hok:opOk (bA b i)=true
 ·have HCELL:=hide_ (fun W (hb:Below w.heap.size w W) j (hj:j<n)=>show W.cell? (ad.add j)=some (.int .u8 (bA b j)) by
   obtain ⟨ad',u',e',hb',hu',hc'⟩:=hr.at_ hj
   injection e' with e'
   subst e'
   obtain rfl:=u8s_at (by omega) hu'
   exact (hb.cell (by rw [block_of_add];exact hb')).trans hc')
  have HBY:=hide_ (fun j=>bA_byte hb j)
  have HOPD:=hide_ (fun j=>opdJ_bd hb i (rdW b i) j)
  have HLA:=hide_ la
  rw [hok] at HI
  unfold opV at HI
  unfold rdA at HE HGOOD
  have hW:rdW b i=(opR (bA b i)).width:=rfl
  obtain ⟨r,hr'⟩:∃ r,r=opR (bA b i):=⟨_,rfl⟩
  obtain ⟨o,ho⟩:∃ o,o=bA b i:=⟨_,rfl⟩
  rw [hok,la] at HE
  rw [← hr'] at HI hwid HE hW
  rw [← ho] at HI hc HGOOD
  have HCI:=hide_ (fun W (hb:Below w.heap.size w W)=>show W.cell? (ad.add i)=some (.int .u8 o) from (HCELL.out W hb i hi).trans (by rw [ho]))
  rw [hW] at HE HOPD HGOOD
  clear hr' ho hok hu hr la hb
  unfold opCells at HI
  have e1:IntKind.i64.wrap ((n:Int) - (i:Int))=(n:Int) - (i:Int):=IntWalk.i64_in _ (by omega)
  have e2:IntKind.i64.wrap ((n:Int) - (i:Int) - 1)=(n:Int) - (i:Int) - 1:=IntWalk.i64_in _ (by omega)
  by_cases hcut:n<i+1+r.width
  ·have he:rdE b i=72:=by rw [HE.out,if_neg (by simp),if_pos hcut]
   have HEE:=hide_ (HBAD.out 72 (by decide) he)
   have d1:decide ((n:Int) - (i:Int) - 1<(r.width:Int))=true:=decide_eq_true (by omega)
   clear HE he HCI HOPD HCELL HBY HLA hcut hW HBAD HGOOD
   go_enter Tryz.func128,Tryz.ntmps128
   go_wp2_with fail
   refine (HI.out _).mono ?_
   rintro e w1 ⟨rfl,hb1⟩
   have hK:=hide_ ((Blk.new w 66 #[.int .u8 0,.int .u32 0]).below hb1 (by simp))
   have HB:=hide_ (((Below.refl _ _).alloc (Nat.le_refl w.heap.size) (.cells #[.int .u8 0,.int .u32 0] 66)).trans (hb1.mono (by simp)))
   have hz:w.heap.size<w1.heap.size:=hK.out.lt
   clear hb1
   go_wp2_with (first | (refine wpList_store_row rfl 66 (.tmp 4) (.tmp 30) rfl _ (insC 0 0) rfl rfl 66 #[.int .u8 0,.int .u32 0] (hK.out.alloc _) (ins_info _ rfl) rfl (insC_one 0 0) ?_))
   exact bodyPost_ret (v:=.tuple #[.agg (insC 0 0),.int .i64 0,.int .i64 72]) (result_cell3 rfl _ _ _ w.heap.size _ _ _ rfl rfl rfl (ins_load (setRow_heap _ _ _ _ _ _ (hK.out.alloc _)) rfl)) rfl
    ⟨HEE.out,below_setRow (HB.out.alloc HB.out.size _) (Nat.le_refl _) _⟩
  ·have d1:decide ((n:Int) - (i:Int) - 1<(r.width:Int))=false:=decide_eq_false (by omega)
   obtain ⟨wd,hwd⟩:∃ wd,wd=r.width:=⟨_,rfl⟩
   rw [← hwd] at HE HOPD HI d1 hwid hcut HGOOD
   have HE:=hide_ (show rdE b i=if (r.most:Int)<opdJ b i wd wd then 71 else 0 by rw [HE.out,if_neg (by simp),if_neg hcut])
   have HNC:=hide_ hcut
   clear hcut hW hwd
   go_enter Tryz.func128,Tryz.ntmps128
   go_wp2_with fail
   refine (HI.out _).mono ?_
   rintro e w1 ⟨rfl,hb1⟩
   have hK:=hide_ ((Blk.new w 66 #[.int .u8 0,.int .u32 0]).below hb1 (by simp))
   have HB:=hide_ (((Below.refl _ _).alloc (Nat.le_refl w.heap.size) (.cells #[.int .u8 0,.int .u32 0] 66)).trans (hb1.mono (by simp)))
   have hz:w.heap.size<w1.heap.size:=hK.out.lt
   clear hb1
   obtain ⟨W1,hW1⟩:∃ W,W=w1.alloc (.cells #[.string ⟨r.w.toArray⟩,.int .i64 wd,.int .u32 r.most,.int .i64 r.takes,.int .i64 r.gives,.int .u8 r.kind] 114):=⟨_,rfl⟩
   have HB1:=hide_ (show Below w.heap.size w W1 by rw [hW1];exact HB.out.alloc HB.out.size _)
   have HK7:=hide_ (show Blk W1 w1.heap.size 114 #[.string ⟨r.w.toArray⟩,.int .i64 wd,.int .u32 r.most,.int .i64 r.takes,.int .i64 r.gives,.int .u8 r.kind] by rw [hW1];exact Blk.new _ _ _)
   have HK4:=hide_ (show Blk W1 w.heap.size 66 #[.int .u8 0,.int .u32 0] by rw [hW1];exact hK.out.alloc _)
   have hs1:W1.heap.size=w1.heap.size+1:=by rw [hW1];simp
   have hcw:=HCI.out W1 HB1.out
   rw [hW1] at hcw
   go_wp2
   rw [← hW1]
   have HSZ:=hide_ hs1
   have HK9:=hide_ (Blk.new W1 66 #[.int .u8 o,.int .u32 0])
   rw [hs1] at HK9
   clear hW1 hs1 hcw hc e1 e2 d1 hK HB HI
   go_loopw [10] (fun k wr=>∃ j:Nat,j≤wd∧k=.int .i64 ((wd:Int) - (j:Int))∧Hid (Blk wr (w1.heap.size+1) 66 #[.int .u8 o,.int .u32 (opdJ b i wd j)])∧Hid (Blk wr w1.heap.size 114 #[.string ⟨r.w.toArray⟩,.int .i64 wd,.int .u32 r.most,.int .i64 r.takes,.int .i64 r.gives,.int .u8 r.kind])∧Hid (Blk wr w.heap.size 66 #[.int .u8 0,.int .u32 0])∧Hid (Below w.heap.size w wr)) (fun k _=>(intOf k).toNat)
   case atStart=>exact ⟨0,Nat.zero_le _,by simp,HK9,hide_ (HK7.out.alloc _),hide_ (HK4.out.alloc _),hide_ (HB1.out.alloc HB1.out.size _)⟩
   case round =>
    clear HK9 HK7 HK4 HB1 HSZ
    obtain ⟨j,hj,rfl,HK9,HK7,HK4,HB⟩:=hrel
    obtain ⟨p0,p1⟩:=HOPD.out j
    have f0:=HK9.out.cell 1
    have f1:=HK9.out.frozen 1
    have f2:=HK7.out.cell 1
    have f3:=HK7.out.cell 2
    have z9:=HK9.out.lt
    have z7:=HK7.out.lt
    have z4:=HK4.out.lt
    obtain ⟨x,hx⟩:∃ x,x=opdJ b i wd j:=⟨_,rfl⟩
    by_cases hlt:j<wd
    ·obtain ⟨m,hm⟩:∃ m,m=wd - j:=⟨_,rfl⟩
     have hidx:i+m<n:=by have:=HNC.out;omega
     have hcw:=HCELL.out wr HB.out (i+m) hidx
     obtain ⟨y0,y1⟩:=HBY.out (i+m)
     have HNX:=hide_ (show opdJ b i wd (j+1)=x * 256+bA b (i+m) by rw [opdJ,← hx,← hm])
     obtain ⟨y,hy⟩:∃ y,y=bA b (i+m):=⟨_,rfl⟩
     rw [← hy] at hcw y0 y1 HNX
     have hm2:(wd:Int) - (j:Int)=(m:Int):=by omega
     have hm3:1≤m∧m≤4:=by omega
     have px:x<16777216:=by
      rw [← hx] at p1
      have:256 ^ j≤256 ^ 3:=Nat.pow_le_pow_right (by omega) (by omega)
      have h3:(256:Nat) ^ 3=16777216:=by decide
      omega
     rw [← hx] at f0 p0
     have HM:=hide_ hm
     have HM2:=hide_ hm2
     have HK9':=hide_ (show Blk wr (w1.heap.size+1) 66 #[.int .u8 o,.int .u32 x] by rw [hx];exact HK9.out)
     rw [hm2]
     have s1:IntKind.i64.wrap ((i:Int)+(m:Int))=(i:Int)+(m:Int):=IntWalk.i64_in _ (by omega)
     have s2:(0:Int)≤(i:Int)+(m:Int):=by omega
     have s3:((i:Int)+(m:Int)).toNat=i+m:=by omega
     have s4:(i:Int)+(m:Int)<(n:Int):=by omega
     have s5:IntKind.u32.wrap (x * 256)=x * 256:=IntWalk.u32_in _ (by omega)
     have s6:IntKind.u32.wrap y=y:=IntWalk.u32_in _ (by omega)
     have s7:=u32_shl8_or x y p0 px y0 y1
     have s8:decide ((0:Int)<(m:Int))=true:=decide_eq_true (by omega)
     have s9:decide (0<m)=true:=decide_eq_true (by omega)
     clear hx hy hm hm2 hlt HK9 HOPD HCI HE HNC p1 HCELL HBY
     go_wp2_with fail
     go_region
     have s10:IntKind.i64.wrap ((m:Int) - 1)=(m:Int) - 1:=IntWalk.i64_in _ (by omega)
     go_wp2
     go_roundw
     case rel=>exact ⟨j+1,by have:=HM.out;omega,by have:=HM2.out;congr 1;push_cast;omega,hide_ (by rw [HNX.out];exact (HK9'.out.set_ 1 _).drew),hide_ ((HK7.out.far (p:=⟨w1.heap.size+1,1,none⟩) (by dsimp only;omega) _).drew),hide_ ((HK4.out.far (p:=⟨w1.heap.size+1,1,none⟩) (by dsimp only;omega) _).drew),hide_ ((HB.out.setCell (p:=⟨w1.heap.size+1,1,none⟩) (by dsimp only;omega) _).drew)⟩
     case measure=>have:=HM2.out;simp [intOf];omega
    ·obtain rfl:j=wd:=by omega
     have z0:(j:Int) - (j:Int)=0:=by omega
     rw [z0]
     have HB2:=HB.out
     by_cases hm:(r.most:Int)<opdJ b i j j
     ·have he:rdE b i=71:=by rw [HE.out,if_pos hm]
      have HEE:=hide_ (HBAD.out 71 (by decide) he)
      have d2:decide ((r.most:Int)<opdJ b i j j)=true:=decide_eq_true hm
      obtain ⟨x,hx⟩:∃ x,x=opdJ b i j j:=⟨_,rfl⟩
      rw [← hx] at d2 f0
      clear HE he hm hx HK9 HOPD HCELL HBY HCI HNC p0 p1 HB2 HBAD HGOOD
      go_wp2_with (first | (refine wpList_store_row rfl 66 (.tmp 4) (.tmp 59) rfl _ (insC 0 0) rfl rfl 66 #[.int .u8 0,.int .u32 0] HK4.out (ins_info _ rfl) rfl (insC_one 0 0) ?_))
      exact bodyPost_ret (v:=.tuple #[.agg (insC 0 0),.int .i64 0,.int .i64 71]) (result_cell3 rfl _ _ _ w.heap.size _ _ _ rfl rfl rfl (ins_load (setRow_heap _ _ _ _ _ _ HK4.out) rfl)) rfl
       ⟨HEE.out,below_setRow HB.out (Nat.le_refl _) _⟩
     ·have he:rdE b i=0:=by rw [HE.out,if_neg hm]
      have HEE:=hide_ (HGOOD.out he)
      have d2:decide ((r.most:Int)<opdJ b i j j)=false:=decide_eq_false hm
      obtain ⟨x,hx⟩:∃ x,x=opdJ b i j j:=⟨_,rfl⟩
      rw [← hx] at d2 f0 HK9 HEE
      have s10:IntKind.i64.wrap (1+(j:Int))=1+(j:Int):=IntWalk.i64_in _ (by omega)
      clear HE he hm hx HOPD HCELL HBY HCI HNC p0 p1 HB2 HBAD HGOOD
      have f9:=HK9.out.cell 0
      have g0:=HK4.out.cell 0
      have g1:=HK4.out.cell 1
      have g2:=HK4.out.frozen 0
      have g3:=HK4.out.frozen 1
      go_wp2_with fail
      go_region
      go_wp2
      exact bodyPost_ret (v:=.tuple #[.agg (insC o x),.int .i64 (1+(j:Int)),.int .i64 0]) (result_cell3 rfl _ _ _ w.heap.size _ _ _ rfl rfl rfl (ins_load (show Blk _ _ _ (insC o x) from ((HK4.out.set_ 0 _).set_ 1 _).drew) rfl)) rfl
       ⟨HEE.out,((HB.out.setCell (p:=⟨w.heap.size,0,none⟩) (Nat.le_refl _) _).setCell (p:=⟨w.heap.size,1,none⟩) (Nat.le_refl _) _).drew⟩
 ·have hok:opOk (bA b i)=false:=by simpa using hok
  have he:rdE b i=70:=by rw [HE.out,if_pos hok]
  have HEE:=hide_ (HBAD.out 70 (by decide) he)
  rw [hok] at HI
  unfold opV at HI
  obtain ⟨r,hr'⟩:∃ r,r=opR (bA b i):=⟨_,rfl⟩
  obtain ⟨o,ho⟩:∃ o,o=bA b i:=⟨_,rfl⟩
  rw [← hr'] at HI
  rw [← ho] at HI hc
  clear hr' ho HE hok he hwid hu hr
  unfold opCells at HI
  clear HBAD HGOOD
  go_enter Tryz.func128,Tryz.ntmps128
  go_wp2_with fail
  refine (HI.out _).mono ?_
  rintro e w1 ⟨rfl,hb1⟩
  have hK:=hide_ ((Blk.new w 66 #[.int .u8 0,.int .u32 0]).below hb1 (by simp))
  have HB:=hide_ (((Below.refl _ _).alloc (Nat.le_refl w.heap.size) (.cells #[.int .u8 0,.int .u32 0] 66)).trans (hb1.mono (by simp)))
  have hz:w.heap.size<w1.heap.size:=hK.out.lt
  clear hb1
  go_wp2_with (first | (refine wpList_store_row rfl 66 (.tmp 4) (.tmp 21) rfl _ (insC 0 0) rfl rfl 66 #[.int .u8 0,.int .u32 0] (hK.out.alloc _) (ins_info _ rfl) rfl (insC_one 0 0) ?_))
  exact bodyPost_ret (v:=.tuple #[.agg (insC 0 0),.int .i64 0,.int .i64 70]) (result_cell3 rfl _ _ _ w.heap.size _ _ _ rfl rfl rfl (ins_load (setRow_heap _ _ _ _ _ _ (hK.out.alloc _)) rfl)) rfl
   ⟨HEE.out,below_setRow (HB.out.alloc HB.out.size _) (Nat.le_refl _) _⟩
set_option maxHeartbeats 2000000 in
theorem Size_ok (op arg:Int) (h:opChk op arg=0) (w:World):Calls Tryz.prog 56 #[.agg #[.int .u8 op,.int .u32 arg]] w fun e w'=>e=.returned (.int .i64 (1+((opR op).width:Nat)))∧Below w.heap.size w w':=by
 have HC:=hide_ (fun w=>Check_any op arg w)
 rw [h] at HC
 have HI:=hide_ (fun w=>Info_any op w)
 have hwid:=opR_wid op
 unfold opV at HI
 obtain ⟨r,hr⟩:∃ r,r=opR op:=⟨_,rfl⟩
 obtain ⟨ok,hok⟩:∃ k,k=opOk op:=⟨_,rfl⟩
 rw [← hr,← hok] at HI
 rw [← hr] at hwid ⊢
 clear hr hok h
 unfold opCells at HI
 have s1:IntKind.i64.wrap (1+(r.width:Int))=1+(r.width:Int):=IntWalk.i64_in _ (by omega)
 go_enter Tryz.func56,Tryz.ntmps56
 go_wp2_with fail
 refine (HC.out _).mono ?_
 rintro e w1 ⟨rfl,hb1⟩
 have hK:=(Blk.new w 66 #[.int .u8 op,.int .u32 arg]).below hb1 (by simp)
 have c0:=hK.cell 0
 have HB:=hide_ (((Below.refl _ _).alloc (Nat.le_refl w.heap.size) (.cells #[.int .u8 op,.int .u32 arg] 66)).trans (hb1.mono (by simp)))
 clear hb1 hK
 go_wp2_with fail
 refine (HI.out _).mono ?_
 rintro e w2 ⟨rfl,hb2⟩
 have HB2:=hide_ (HB.out.trans (hb2.mono HB.out.size))
 clear hb2 c0 HB
 go_wp2
 go_ret
 exact ⟨rfl,HB2.out.alloc HB2.out.size _⟩
theorem Walk1_any (a e:Int) (w:World):Calls Tryz.prog 95 #[.int .i64 a,.int .i64 e] w fun e w'=>e=.returned (.tuple #[])∧w'=w:=by
 go_enter Tryz.func95,Tryz.ntmps95
 go_wp2
 go_end0
 exact ⟨rfl,rfl⟩
def KpR (lo hi:Nat) (A B:World):Prop:=(∀ k,lo≤k→k<hi→k<A.heap.size→B.heap[k]?=A.heap[k]?)∧KeepsWalks A B
theorem KpR_t {lo hi:Nat} {A B C:World} (h:KpR lo hi A B) (k:KpR lo hi B C):KpR lo hi A C:=⟨fun i h1 h2 h3=>(k.1 i h1 h2 (Nat.lt_of_lt_of_le h3 h.2.size)).trans (h.1 i h1 h2 h3),h.2.trans k.2⟩
theorem KpR_cell {lo hi:Nat} {A B:World} (h:KpR lo hi A B) {p:Addr} (h1:lo≤p.block) (h2:p.block<hi) (h3:p.block<A.heap.size):B.cell? p=A.cell? p:=World.cell?_of_block (h.1 p.block h1 h2 h3)
theorem KpR_below {lo hi n:Nat} {A B:World} (h:Below n A B) (hn:A.heap.size≤n):KpR lo hi A B :=
 ⟨fun k _ _ h3=>h.block k (by omega),⟨h.size,fun k o hk _=>(h.block k (by have:=(Array.getElem?_eq_some_iff.1 hk).1;omega)).trans hk⟩⟩
theorem KpR_b {lo hi B:Nat} (hB:hi≤B) (W:World) (l:Nat) (o o':Obj) (hl:B≤l) (h:W.heap[l]?=some o) (hc:o.isCells=false) (hw:o.isWalk=false):KpR lo hi W (W.putObj l o') :=
 ⟨fun k _ h2 _=>putObj_heap_ne (by omega),(KpT_b (n₀:=B) (w:={ W with heap:=W.heap.extract 0 B }) (by have:=(Array.getElem?_eq_some_iff.1 h).1;simp;omega) W l o o' (by simp;omega) h hc hw).2⟩
abbrev encS (s:StpV):Array Value:=#[.int .i64 s.at_,.agg #[.int .u8 s.op,.int .u32 s.arg]]
theorem grown_below {w w':World} (h:Below w.heap.size w w'):w.grownBy w' none:=⟨h.os,h.tape,h.output,h.size,fun k hk _=>h.block k hk⟩
theorem stepsF_ge {b:List Int}:∀ {i:Nat} (f:Nat),b.length≤i→stepsF b f i=[]
 | _,0,_=>rfl
 | i,f+1,h=>by unfold stepsF;rw [if_neg (by omega)]
theorem stepsF_no {b:List Int} {i:Nat}:∀ (f:Nat),rdE b i≠0→stepsF b f i=[]
 | 0,_=>rfl
 | f+1,h=>by unfold stepsF;rw [if_neg (fun x=>h x.2)]
structure ThrAt (lo hi bB bE:Nat) (A:Option Addr) (c:Nat) (b:List Int) (W:World):Prop where
 l1:lo≤bB
 l2:bB<hi
 l3:lo≤bE
 l4:bE<hi
 l5:hi≤W.heap.size
 cb:W.cell? ⟨bB,0,none⟩=some (.slice A b.length c)
 ce:W.cell? ⟨bE,0,none⟩=some (.func (.func 95) #[] #[])
 rd:Reads W hi 1 A b.length (u8s b)
 lA:∀ ad,A=some ad→lo≤ad.block
theorem ThrAt.kept {lo hi bB bE c:Nat} {A:Option Addr} {b:List Int} {W W':World} (h:ThrAt lo hi bB bE A c b W) (hk:KpR lo hi W W'):ThrAt lo hi bB bE A c b W' :=
 ⟨h.l1,h.l2,h.l3,h.l4,Nat.le_trans h.l5 hk.2.size,(KpR_cell hk (p:=⟨bB,0,none⟩) h.l1 h.l2 (Nat.lt_of_lt_of_le h.l2 h.l5)).trans h.cb,(KpR_cell hk (p:=⟨bE,0,none⟩) h.l3 h.l4 (Nat.lt_of_lt_of_le h.l4 h.l5)).trans h.ce,
   ⟨h.rd.1,fun hp=>by
     obtain ⟨ad,e,hb,hc⟩:=h.rd.2 hp
     exact ⟨ad,e,hb,fun j v hj=>(KpR_cell hk (by rw [block_of_add];exact h.lA ad e) (by rw [block_of_add];exact hb) (by rw [block_of_add];exact Nat.lt_of_lt_of_le hb h.l5)).trans (hc j v hj)⟩⟩,h.lA⟩
set_option maxHeartbeats 4000000 in
theorem thr_in (n:Nat) (hn:1≤n) (l lo hi bB bE B c:Nat) (A:Option Addr) (b:List Int) (hb:isBytes b) (hl:b.length≤140737488351232) (J Jx:List StpV→World→Prop) (hJ:AbidesFrom B J)
  (hY:∀ pre x W,x ∈ steps b→J pre W→pre.length<(steps b).length→YieldAt Fence.wide (n - 1) Tryz.prog l (encS x) W fun e W' =>
    (e=.returned (.bool true)∧J (pre ++ [x]) W'∧KpR lo hi W W')∨(e=.returned (.bool false)∧Jx (pre ++ [x]) W'))
  (W:World) (hT:ThrAt lo hi bB bE A c b W) (h0:J [] W) :
  CallsIn Fence.wide n Tryz.prog 127 #[.func (.yield l) #[] #[],.pointer (some ⟨bB,0,none⟩),.pointer (some ⟨bE,0,none⟩)] W fun e W'=>(∃ v,e=.returned v) ∧
   ((∃ ys,ys=steps b∧J ys W')∨(∃ pre,pre <+: steps b∧Jx pre W')):=by
 refine callsIn_of_wp Tryz.func127 rfl trivial ?_ rfl
 simp only [Tryz.ntmps127,List.size_toArray,List.length_cons,List.length_nil,Nat.reduceAdd,Nat.reduceSub,Array.replicate_succ,Array.replicate_zero,List.push_toArray,List.append_toArray,List.nil_append,List.cons_append]
 gi_wp2
 gi_loopw [4,5] (fun s4 s5 wr=>∃ (pre:List StpV) (pos k:Nat),s4=.int .i64 pos∧s5=.int .i64 k∧k≤16384∧pos≤b.length∧Hid (steps b=pre ++ stepsF b (16384 - k) pos)∧Hid (ThrAt lo hi bB bE A c b wr)∧J pre wr) (fun _ s5 _=>16384 - (intOf s5).toNat)
 case atStart=>exact ⟨[],0,0,rfl,rfl,Nat.zero_le _,Nat.zero_le _,hide_ rfl,hide_ hT,h0⟩
 case round =>
  obtain ⟨pre,pos,k,rfl,rfl,hk,hpos,HS,HT,hj⟩:=hrel
  have cb:=HT.out.cb
  have ce:=HT.out.ce
  by_cases hlt:pos<b.length
  ·by_cases hkk:k=16384
   ·subst hkk
    have HE:=hide_ (show steps b=pre by rw [HS.out,show 16384 - 16384=0 from rfl,stepsF,List.append_nil])
    gi_wp2_with fail
    refine ⟨trivial,?_⟩
    refine (callsIn_wide.2 (Walk1_any _ _ _)).mono ?_
    rintro e w' ⟨rfl,rfl⟩
    gi_wp2
    refine bodyPost_ret (results_none rfl _ _ _) rfl ?_
    exact ⟨⟨_,rfl⟩,.inl ⟨pre,HE.out.symm,hj⟩⟩
   ·have hlen:=hl
    have RD:=hide_ (read_any A b.length c pos b wr (HT.out.rd.more HT.out.l5) hl hb hlt)
    by_cases he:rdE b pos=0
    ·obtain ⟨k',hk'⟩:∃ k',16384 - k=k' + 1:=⟨16383 - k,by omega⟩
     have HX:=hide_ (show steps b=(pre ++ [⟨pos,bA b pos,rdA b pos⟩]) ++ stepsF b (16384 - (k+1)) (pos+(1+rdW b pos)) by
      rw [HS.out,hk',stepsF,if_pos ⟨hlt,he⟩,show 16384 - (k+1)=k' by omega]
      simp)
     have hmem:(⟨pos,bA b pos,rdA b pos⟩:StpV) ∈ steps b:=by rw [HX.out];simp
     have hln:pre.length<(steps b).length:=by rw [HX.out];simp
     have hfit:=(rdE_ok he).2.1
     have hY1:=fun W=>hY pre ⟨pos,bA b pos,rdA b pos⟩ W hmem
     have HY:=hide_ (fun W hjw=>hY1 W hjw hln)
     unfold rdV rdN at RD
     rw [if_pos he,if_pos he,he] at RD
     clear hY hY1 hmem hln hk' he HS
     unfold encS at HY
     obtain ⟨o,ho⟩:∃ o,o=bA b pos:=⟨_,rfl⟩
     obtain ⟨g,hg⟩:∃ g,g=rdA b pos:=⟨_,rfl⟩
     obtain ⟨wd,hwd⟩:∃ g,g=rdW b pos:=⟨_,rfl⟩
     rw [← ho,← hg] at RD HY HX
     rw [← hwd] at RD HX hfit
     clear ho hg hwd
     gi_wp2_with fail
     refine ⟨trivial,?_⟩
     refine (callsIn_wide.2 RD.out).mono ?_
     rintro e w2 ⟨rfl,hb2⟩
     have hg3:Below wr.heap.size wr (w2.alloc (.cells #[.int .u8 o,.int .u32 g] 66)):=hb2.alloc hb2.size _
     have HT3:=hide_ (HT.out.kept (KpR_below hg3 (Nat.le_refl _)))
     have hj3:=hJ pre wr _ none hj (grown_below hg3) (fun r h=>by cases h)
     have s1:IntKind.i64.wrap ((pos:Int)+(1+(wd:Int)))=((pos+(1+wd):Nat):Int):=by rw [show (pos:Int)+(1+(wd:Int))=((pos+(1+wd):Nat):Int) by push_cast;rfl];exact IntWalk.i64_in _ (by omega)
     obtain ⟨fn,tmps,assign,body,hy,hR⟩:=HY.out _ hj3
     clear hj hg3 cb ce HT hj3 hb2 HY RD
     gi_wp2_with fail
     refine hR.mono ?_
     rintro e W3 (⟨rfl,hJ3,hk3⟩ | ⟨rfl,hJx3⟩)
     ·have HT4:=hide_ (HT3.out.kept hk3)
      clear hR hk3
      gi_wp2
      go_roundw
      case rel=>exact ⟨_,pos+(1+wd),k+1,by first | rw [s1] | go_num,by go_num,by omega,by omega,HX,HT4,hJ3⟩
      case measure=>simp [intOf];omega
     ·clear hR
      gi_wp2
      refine bodyPost_ret (results_none rfl _ _ _) rfl ?_
      exact ⟨⟨_,rfl⟩,.inr ⟨_,⟨_,HX.out.symm⟩,hJx3⟩⟩
    ·have HE:=hide_ (show steps b=pre by rw [HS.out,stepsF_no _ he,List.append_nil])
     unfold rdV rdN at RD
     rw [if_neg he,if_neg he] at RD
     obtain ⟨E,hE⟩:∃ E,E=rdE b pos:=⟨_,rfl⟩
     rw [← hE] at he RD
     have hne:(E != 0)=true:=by simpa using he
     clear he hE HS hY
     unfold zI at RD
     gi_wp2_with fail
     refine ⟨trivial,?_⟩
     refine (callsIn_wide.2 RD.out).mono ?_
     rintro e w2 ⟨rfl,hb2⟩
     have hg3:Below wr.heap.size wr (w2.alloc (.cells #[.int .u8 0,.int .u32 0] 66)):=hb2.alloc hb2.size _
     have HT3:=hide_ (HT.out.kept (KpR_below hg3 (Nat.le_refl _)))
     have hj3:=hJ pre wr _ none hj (grown_below hg3) (fun r h=>by cases h)
     have ce3:=HT3.out.ce
     clear hj hg3 cb ce HT hb2 RD
     gi_wp2_with fail
     refine ⟨trivial,?_⟩
     refine (callsIn_wide.2 (Walk1_any _ _ _)).mono ?_
     rintro e w' ⟨rfl,rfl⟩
     gi_wp2
     refine bodyPost_ret (results_none rfl _ _ _) rfl ?_
     exact ⟨⟨_,rfl⟩,.inl ⟨pre,HE.out.symm,hj3⟩⟩
  ·have HE:=hide_ (show steps b=pre by rw [HS.out,stepsF_ge _ (by omega),List.append_nil])
   gi_wp2_with fail
   refine ⟨trivial,?_⟩
   refine (callsIn_wide.2 (Walk1_any _ _ _)).mono ?_
   rintro e w' ⟨rfl,rfl⟩
   gi_wp2
   go_end0
   exact ⟨⟨_,rfl⟩,.inl ⟨pre,HE.out.symm,hj⟩⟩
end Go.Proofs.YtikbegmodacopaaGreatDoor
