/-
  Joined and packed by program.
-/
import Derived.Lib.RuneBytes
import Derived.Test.YtikbegmodacopaaGreatDoorC03
import Derived.Test.YtikbegmodacopaaGreatDoorC04
import Derived.Test.YtikbegmodacopaaGreatDoorC01
import Derived.Laws.EntriesVeiled
import Derived.Sort.QuietIn
import Derived.Deep.CutRange
import Derived.Shelf.Strings.SlTrimAscii
namespace Go.Proofs.YtikbegmodacopaaGreatDoor
set_option maxRecDepth 100000
open Go.RowKit Go.PlainAid
def sayZ (s:ByteArray) (i:Nat):List Int:=if (sayN s i).2.1 then [(sayN s i).1] else Lib.encodeRuneZ (sayN s i).1
def addTo (l:List Int) (x:Option (List Int) × Int × Int):Option (List Int) × Int × Int:=(x.1.map (l ++ ·),x.2.1,x.2.2)
def bytesAt (s:ByteArray):Nat→Nat→Option (List Int) × Int × Int
 | 0,_=>(none,s.size,11)
 | f+1,i=>if s.size≤i then (none,s.size,11) else if bn s i=34 then (if i+1<s.size then (none,(i:Int)+1,10) else (some [],0,0))
  else if (sayN s i).2.2.2≠0 then (none,(i:Int),(sayN s i).2.2.2) else addTo (sayZ s i) (bytesAt s f (i+(sayN s i).2.2.1))
def bytesN (s:ByteArray):Option (List Int) × Int × Int:=if s.size=0 then (none,0,11) else if bn s 0≠34 then (none,0,11) else bytesAt s s.size 1
theorem addTo_nil (x:Option (List Int) × Int × Int):addTo [] x=x:=by
 obtain ⟨o,a,e⟩:=x
 cases o <;> rfl
theorem addTo_add (l m:List Int) (x:Option (List Int) × Int × Int):addTo l (addTo m x)=addTo (l ++ m) x:=by
 obtain ⟨o,a,e⟩:=x
 cases o <;> simp [addTo]
theorem bytesAt_end (s:ByteArray) (f i:Nat) (h:s.size≤i):bytesAt s f i=(none,(s.size:Int),11):=by
 cases f with
 | zero=>rfl
 | succ f=>rw [bytesAt,if_pos h]
theorem codeZ (v:Nat) (hr:isRune v):Lib.encodeRuneZ (v:Int)=(codeL v).map fun (x:Nat)=>(x:Int):=by
 obtain ⟨h1,h2⟩:=hr
 unfold codeL
 by_cases a:v<128
 ·rw [if_pos a,Lib.encodeRuneZ_one (by omega) (by omega)];rfl
 by_cases b:v<2048
 ·rw [if_neg a,if_pos b,Lib.encodeRuneZ_two (by omega) (by omega)];rfl
 by_cases c:v<65536
 ·rw [if_neg a,if_neg b,if_pos c,Lib.encodeRuneZ_three (by omega)];rfl
 ·rw [if_neg a,if_neg b,if_neg c,Lib.encodeRuneZ_four (by omega) (by omega)];rfl
theorem escN_six (s:ByteArray) (i:Nat) (c:Int) (k:Nat) (h:escN s i=some (c,false,k)):k=6:=by
 unfold escN at h
 repeat' split at h
 all_goals
  simp only [Option.some.injEq,Prod.mk.injEq,reduceCtorEq,Bool.true_eq_false,false_and,and_false] at h
 omega
theorem sayN_good (s:ByteArray) (i:Nat) (hi:i<s.size) (he:(sayN s i).2.2.2=0) :
  1≤(sayN s i).2.2.1∧(sayN s i).2.2.1≤6∧(sayZ s i).length≤(sayN s i).2.2.1∧sayZ s i=(sayB s i).map (fun (x:Nat)=>(x:Int)) ∧
  ((sayN s i).2.1=true→0≤(sayN s i).1∧(sayN s i).1<256)∧((sayN s i).2.1=false→∃ v:Nat,(sayN s i).1=(v:Int)∧isRune v):=by
 unfold sayZ sayB
 by_cases h:bn s i=92
 ·cases hn:escN s i with
  | none =>
   have e0:sayN s i=(0,false,0,12):=by unfold sayN;rw [if_pos h,hn]
   rw [e0] at he
   cases he
  | some x =>
   obtain ⟨c,b,k⟩:=x
   have e0:sayN s i=(c,b,k,0):=by unfold sayN;rw [if_pos h,hn]
   rw [e0]
   obtain ⟨g0,g1,g2,g3,g4⟩:=escN_ok s i c b k hn
   cases b with
   | true =>
    have:=g1 rfl
    refine ⟨by simp only;omega,by simpa using g4,by simp;omega,?_,fun _=>⟨g0,this⟩,(fun e=>by cases e)⟩
    simp only [if_true,escB,List.map_cons,List.map_nil]
    rw [Int.toNat_of_nonneg g0]
   | false =>
    have hr:=g2 rfl
    have hk:=escN_six s i c k hn
    have hc:c=((c.toNat:Nat):Int):=(Int.toNat_of_nonneg g0).symm
    have hz:=codeZ c.toNat hr
    rw [← hc] at hz
    refine ⟨by simp only;omega,by simpa using g4,?_,by simpa [escB] using hz,(fun e=>by cases e),fun _=>⟨c.toNat,hc,hr⟩⟩
    have:=codeL_len c.toNat
    simp only [Bool.false_eq_true,if_false,hz,List.length_map]
    omega
 by_cases hc:bn s i<32∨bn s i=127
 ·have e0:sayN s i=(0,false,0,10):=by unfold sayN;rw [if_neg h,if_pos hc]
  rw [e0] at he
  cases he
 by_cases hl:lost s i
 ·have e0:sayN s i=(0,false,0,13):=by unfold sayN;rw [if_neg h,if_neg hc,if_pos hl]
  rw [e0] at he
  cases he
 ·have e0:sayN s i=(((Utf8.decode s i).1:Int),false,cutN s i,0):=by unfold sayN;rw [if_neg h,if_neg hc,if_neg hl]
  rw [e0]
  obtain ⟨hr,_,hcn⟩:=cut_code s i hi hl
  have hz:=codeZ _ hr
  have h1:=cutN_pos s i
  have h4:=cutN_le4 s i
  refine ⟨h1,by simp only;omega,?_,by simpa [escB] using hz,fun e=>(by cases e),fun _=>⟨_,rfl,hr⟩⟩
  simp only [Bool.false_eq_true,if_false,hz,List.length_map,hcn]
  omega
theorem bytesAt_step (s:ByteArray) (f i:Nat) (hi:i<s.size) (h34:bn s i≠34) (he:(sayN s i).2.2.2=0) (acc:List Int) :
  addTo acc (bytesAt s (f+1) i)=addTo (acc ++ sayZ s i) (bytesAt s f (i+(sayN s i).2.2.1)):=by
 rw [bytesAt,if_neg (by omega),if_neg h34,if_neg (by simpa using he),addTo_add]
end Go.Proofs.YtikbegmodacopaaGreatDoor
namespace Go.Proofs.YtikbegmodacopaaGreatDoor
set_option maxRecDepth 100000
open Go.RowKit Go.PlainAid
set_option linter.unusedVariables false
def letR (r:Int):Bool:=(decide (65≤r) && decide (r≤90)) || (decide (97≤r) && decide (r≤122)) || decide (192≤r)
def digR (r:Int):Bool:=decide (48≤r) && decide (r≤57)
def namR (r:Int):Bool:=letR r || digR r || decide (r=95)
def nameF (s:ByteArray):Nat→Nat→Nat
 | 0,i=>i
 | f+1,i=>if i<s.size then (if namR (cutR s i)=true then nameF s f (i+cutN s i) else i) else i
def nameE (s:ByteArray) (i:Nat):Nat:=nameF s (s.size - i) i
theorem nameF_fuel (s:ByteArray):∀ (f g i:Nat),s.size - i≤f→s.size - i≤g→nameF s f i=nameF s g i:=by
 intro f
 induction f with
 | zero =>
  intro g i hf _
  cases g with
  | zero=>rfl
  | succ g=>rw [nameF,nameF,if_neg (by omega)]
 | succ f ih =>
  intro g i hf hg
  cases g with
  | zero=>rw [nameF,nameF,if_neg (by omega)]
  | succ g =>
   rw [nameF,nameF]
   have:=cutN_pos s i
   split
   ·split
    ·exact ih g (i+cutN s i) (by omega) (by omega)
    ·rfl
   ·rfl
theorem nameE_ge (s:ByteArray) (i:Nat) (h:s.size≤i):nameE s i=i:=by
 unfold nameE
 rw [nameF_fuel s _ 1 i (Nat.le_refl _) (by omega),nameF,if_neg (by omega)]
theorem nameE_step (s:ByteArray) (i:Nat) (h:i<s.size) (hn:namR (cutR s i)=true):nameE s i=nameE s (i+cutN s i):=by
 have:=cutN_pos s i
 unfold nameE
 rw [nameF_fuel s _ ((s.size - (i+cutN s i))+1+(cutN s i - 1)) i (Nat.le_refl _) (by omega),show (s.size - (i+cutN s i))+1+(cutN s i - 1)=(s.size - (i+cutN s i)+(cutN s i - 1))+1 by omega,nameF,if_pos h,if_pos hn]
 exact nameF_fuel s _ _ _ (by omega) (by omega)
theorem nameE_stop (s:ByteArray) (i:Nat) (h:namR (cutR s i)=false):nameE s i=i:=by
 unfold nameE
 rw [nameF_fuel s _ ((s.size - i)+1) i (Nat.le_refl _) (by omega),nameF,if_neg (c:=namR (cutR s i)=true) (by rw [h];decide)]
 split <;> rfl
theorem nameF_bd (s:ByteArray):∀ (f i:Nat),i≤s.size→i≤nameF s f i∧nameF s f i≤s.size:=by
 intro f
 induction f with
 | zero=>intro i h;exact ⟨Nat.le_refl _,h⟩
 | succ f ih =>
  intro i h
  rw [nameF]
  split
  ·rename_i hi
   split
   ·have h1:=cutN_fits s i hi
    have:=ih (i+cutN s i) h1
    omega
   ·omega
  ·omega
theorem nameE_bd (s:ByteArray) (i:Nat) (h:i≤s.size):i≤nameE s i∧nameE s i≤s.size:=nameF_bd s _ i h
theorem nameE_lt (s:ByteArray) (i:Nat) (h:i<s.size) (hn:namR (cutR s i)=true):i<nameE s i:=by
 rw [nameE_step s i h hn]
 have:=cutN_pos s i
 have:=(nameE_bd s (i+cutN s i) (cutN_fits s i h)).1
 omega
theorem nameE_cuts (s:ByteArray) (at_:Nat) (ha:at_≤s.size):∀ (pre:List (Nat × Int)) (p:Nat) (x:Nat × Int),(pre ++ [x]) <+: cutsAt (s.extract at_ s.size) p→(∀ y ∈ pre,namR y.2=true)→namR x.2=false→nameE s (at_+p)=at_+x.1:=by
 intro pre
 induction pre with
 | nil =>
  intro p x hp _ hx
  by_cases h:p<(s.extract at_ s.size).size
  ·rw [cutsAt_lt _ p h] at hp
   obtain ⟨t,ht⟩:=hp
   simp only [List.nil_append,List.singleton_append,List.cons.injEq] at ht
   obtain ⟨rfl,_⟩:=ht
   simp only at hx
   rw [cutR_ext s at_ p ha] at hx
   exact nameE_stop s _ hx
  ·rw [cutsAt_ge _ p (by omega)] at hp
   have:=hp.length_le
   simp at this
 | cons y pre ih =>
  intro p x hp hall hx
  by_cases h:p<(s.extract at_ s.size).size
  ·rw [cutsAt_lt _ p h] at hp
   rw [List.cons_append,List.cons_prefix_cons] at hp
   obtain ⟨rfl,hp⟩:=hp
   have h1:=hall _ (List.mem_cons_self ..)
   simp only at h1
   rw [cutR_ext s at_ p ha] at h1
   rw [size_ext] at h
   rw [nameE_step s (at_+p) (by omega) h1,Nat.add_assoc,← cutN_ext s at_ p ha]
   exact ih _ x hp (fun y hy=>hall y (List.mem_cons_of_mem _ hy)) hx
  ·rw [cutsAt_ge _ p (by omega)] at hp
   have:=hp.length_le
   simp at this
theorem nameE_all (s:ByteArray) (at_:Nat) (ha:at_≤s.size):∀ (n p:Nat),(s.extract at_ s.size).size - p≤n→p≤(s.extract at_ s.size).size→(∀ y ∈ cutsAt (s.extract at_ s.size) p,namR y.2=true)→nameE s (at_+p)=s.size:=by
 intro n
 induction n with
 | zero =>
  intro p h hp _
  rw [size_ext] at h hp
  rw [nameE_ge s _ (by omega)]
  omega
 | succ n ih =>
  intro p h hp hall
  by_cases hl:p<(s.extract at_ s.size).size
  ·have h1:=hall (p,cutR (s.extract at_ s.size) p) (by rw [cutsAt_lt _ p hl];exact List.mem_cons_self ..)
   have h2:=cutN_pos (s.extract at_ s.size) p
   have h3:=cutN_fits (s.extract at_ s.size) p hl
   simp only at h1
   rw [cutR_ext s at_ p ha] at h1
   have hl':=hl
   rw [size_ext] at hl'
   rw [nameE_step s (at_+p) (by omega) h1,Nat.add_assoc,← cutN_ext s at_ p ha]
   refine ih _ (by omega) h3 (fun y hy=>hall y ?_)
   rw [cutsAt_lt _ p hl]
   exact List.mem_cons_of_mem _ hy
  ·rw [size_ext] at hl hp
   rw [nameE_ge s _ (by omega)]
   omega
def figB (c:Nat):Bool:=(decide (48≤c) && decide (c≤57)) || (decide (65≤c) && decide (c≤90)) || (decide (97≤c) && decide (c≤122)) || decide (c=95) || decide (c=46)
def powB (hexa:Bool) (b:Nat):Bool:=(!hexa && (decide (b=101) || decide (b=69))) || (hexa && (decide (b=112) || decide (b=80)))
def hexB (s:ByteArray) (i:Nat):Bool:=decide (i+1<s.size) && decide (bn s i=48) && (decide (bn s (i+1)=120) || decide (bn s (i+1)=88))
def figS (s:ByteArray) (hexa:Bool) (k:Nat):Bool:=figB (bn s k) || (powB hexa (bn s (k - 1)) && (decide (bn s k=43) || decide (bn s k=45)))
def figF (s:ByteArray) (hexa:Bool):Nat→Nat→Nat
 | 0,k=>k
 | f+1,k=>if k<s.size then (if figS s hexa k=true then figF s hexa f (k+1) else k) else k
def figE (s:ByteArray) (i:Nat):Nat:=figF s (hexB s i) (s.size - (i+1)) (i+1)
theorem figF_bd (s:ByteArray) (hx:Bool):∀ (f k:Nat),k≤s.size→k≤figF s hx f k∧figF s hx f k≤s.size:=by
 intro f
 induction f with
 | zero=>intro i h;exact ⟨Nat.le_refl _,h⟩
 | succ f ih =>
  intro i h
  rw [figF]
  split
  ·split
   ·have:=ih (i+1) (by omega)
    omega
   ·omega
  ·omega
theorem figE_bd (s:ByteArray) (i:Nat) (h:i<s.size):i<figE s i∧figE s i≤s.size:=by
 have:=figF_bd s (hexB s i) (s.size - (i+1)) (i+1) (by omega)
 unfold figE
 omega
def litF (s:ByteArray) (q:Nat):Nat→Nat→Option Nat
 | 0,_=>none
 | f+1,k=>if k<s.size then (if bn s k=q then some (k+1) else if bn s k=92 then litF s q f (k+2) else if bn s k=10 then none else litF s q f (k+1)) else none
def litE (s:ByteArray) (i:Nat):Option Nat:=litF s (bn s i) (s.size - (i+1)) (i+1)
theorem litF_fuel (s:ByteArray) (q:Nat):∀ (f g i:Nat),s.size - i≤f→s.size - i≤g→litF s q f i=litF s q g i:=by
 intro f
 induction f with
 | zero =>
  intro g i hf _
  cases g with
  | zero=>rfl
  | succ g=>rw [litF,litF,if_neg (by omega)]
 | succ f ih =>
  intro g i hf hg
  cases g with
  | zero=>rw [litF,litF,if_neg (by omega)]
  | succ g =>
   rw [litF,litF]
   split
   ·split
    ·rfl
    ·split
     ·exact ih g _ (by omega) (by omega)
     ·split
      ·rfl
      ·exact ih g _ (by omega) (by omega)
   ·rfl
theorem litF_bd (s:ByteArray) (q:Nat):∀ (f k e:Nat),litF s q f k=some e→k<e∧e≤s.size:=by
 intro f
 induction f with
 | zero=>intro k e h;simp [litF] at h
 | succ f ih =>
  intro k e h
  rw [litF] at h
  split at h
  ·split at h
   ·injection h with h
    omega
   ·split at h
    ·have:=ih _ _ h
     omega
    ·split at h
     ·cases h
     ·have:=ih _ _ h
      omega
  ·cases h
theorem litE_bd (s:ByteArray) (i e:Nat) (h:litE s i=some e):i+1<e∧e≤s.size:=litF_bd s _ _ _ _ h
def litN (s:ByteArray) (i:Nat):Int × Int × Int :=
 let k:Int:=if bn s i=34 then 3 else 4
 match litE s i with
 | none=>(k,i,11)
 | some e=>if bn s i=34 then (if (bytesN (s.extract i e)).2.2≠0 then (k,i+(bytesN (s.extract i e)).2.1,(bytesN (s.extract i e)).2.2) else (k,e,0))
  else (if (runeN (s.extract i e)).2.2≠0 then (k,i+(runeN (s.extract i e)).2.1,(runeN (s.extract i e)).2.2) else (k,e,0))
def fitsAt (s:ByteArray) (i:Nat) (g:ByteArray):Prop:=i+g.size≤s.size∧s.extract i (i+g.size)=g
instance (s:ByteArray) (i:Nat) (g:ByteArray):Decidable (fitsAt s i g):=inferInstanceAs (Decidable (_∧_))
def bestS (s:ByteArray) (i:Nat) (best g:ByteArray):ByteArray:=if best.size<g.size∧fitsAt s i g then g else best
def signN (s:ByteArray) (i:Nat) (sg:List ByteArray):ByteArray:=sg.foldl (bestS s i) ⟨#[]⟩
theorem signN_take (s:ByteArray) (i:Nat) (sg:List ByteArray) (k:Nat) (g:ByteArray) (h:sg[k]?=some g):signN s i (sg.take (k+1))=bestS s i (signN s i (sg.take k)) g:=by
 unfold signN
 rw [List.take_add_one,h,List.foldl_append]
 rfl
theorem signN_fits (s:ByteArray) (i:Nat) (sg:List ByteArray):0<(signN s i sg).size→fitsAt s i (signN s i sg):=by
 unfold signN
 have key:∀ (l:List ByteArray) (b:ByteArray),(0<b.size→fitsAt s i b)→0<(l.foldl (bestS s i) b).size→fitsAt s i (l.foldl (bestS s i) b):=by
  intro l
  induction l with
  | nil=>intro b hb h;exact hb h
  | cons g l ih =>
   intro b hb h
   rw [List.foldl_cons] at h ⊢
   refine ih _ (fun h1=>?_) h
   unfold bestS at h1 ⊢
   split
   ·rename_i h2
    exact h2.2
   ·rename_i h2
    rw [if_neg h2] at h1
    exact hb h1
 exact key sg _ (fun h=>by exact absurd h (by decide))
def tokN (s:ByteArray) (sg:List ByteArray) (i:Nat):Int × Int × Int :=
 if bn s i=10 then (6,i+1,0)
 else if letR (cutR s i)=true∨cutR s i=95 then (1,nameE s i,0)
 else if 48≤bn s i∧bn s i≤57 then (2,figE s i,0)
 else if bn s i=34∨bn s i=39 then litN s i
 else if 0<(signN s i sg).size then (5,i+(signN s i sg).size,0)
 else if cutR s i<0 then (0,i,13) else (0,i,10)
def lineF (s:ByteArray):Nat→Nat→Nat
 | 0,i=>i
 | f+1,i=>if i<s.size then (if bn s i=10 then i else lineF s f (i+1)) else i
def lineE (s:ByteArray) (i:Nat):Nat:=lineF s (s.size - i) i
theorem lineF_fuel (s:ByteArray):∀ (f g i:Nat),s.size - i≤f→s.size - i≤g→lineF s f i=lineF s g i:=by
 intro f
 induction f with
 | zero =>
  intro g i hf _
  cases g with
  | zero=>rfl
  | succ g=>rw [lineF,lineF,if_neg (by omega)]
 | succ f ih =>
  intro g i hf hg
  cases g with
  | zero=>rw [lineF,lineF,if_neg (by omega)]
  | succ g =>
   rw [lineF,lineF]
   split
   ·split
    ·rfl
    ·exact ih g _ (by omega) (by omega)
   ·rfl
theorem lineF_bd (s:ByteArray):∀ (f i:Nat),i≤s.size→i≤lineF s f i∧lineF s f i≤s.size:=by
 intro f
 induction f with
 | zero=>intro i h;exact ⟨Nat.le_refl _,h⟩
 | succ f ih =>
  intro i h
  rw [lineF]
  split
  ·split
   ·omega
   ·have:=ih (i+1) (by omega)
    omega
  ·omega
abbrev Tk:=Int × Nat × Nat
def addTk (l:List Tk) (x:Option (List Tk) × Int × Int):Option (List Tk) × Int × Int:=(x.1.map (l ++ ·),x.2.1,x.2.2)
theorem addTk_nil (x:Option (List Tk) × Int × Int):addTk [] x=x:=by
 obtain ⟨o,a,e⟩:=x
 cases o <;> rfl
theorem addTk_add (l m:List Tk) (x:Option (List Tk) × Int × Int):addTk l (addTk m x)=addTk (l ++ m) x:=by
 obtain ⟨o,a,e⟩:=x
 cases o <;> simp [addTk]
def toksF (s:ByteArray) (sg:List ByteArray):Nat→Nat→Option (List Tk) × Int × Int
 | 0,_=>(some [],0,0)
 | f+1,i=>if i<s.size then
   (if bn s i=9∨bn s i=13∨bn s i=32 then toksF s sg f (i+1)
    else if bn s i=35 then toksF s sg f (lineE s i)
    else if (tokN s sg i).2.2≠0 then (none,(tokN s sg i).2.1,(tokN s sg i).2.2)
    else addTk [((tokN s sg i).1,i,(tokN s sg i).2.1.toNat)] (toksF s sg f (tokN s sg i).2.1.toNat))
  else (some [],0,0)
theorem lineE_lt (s:ByteArray) (i:Nat) (h:i<s.size) (h35:bn s i=35):i<lineE s i∧lineE s i≤s.size:=by
 unfold lineE
 rw [lineF_fuel s _ ((s.size - (i+1))+1) i (Nat.le_refl _) (by omega),lineF,if_pos h,if_neg (by omega)]
 have:=lineF_bd s (s.size - (i+1)) (i+1) (by omega)
 omega
theorem tokN_end (s:ByteArray) (sg:List ByteArray) (i:Nat) (h:i<s.size) (he:(tokN s sg i).2.2=0):(i:Int)<(tokN s sg i).2.1∧(tokN s sg i).2.1≤(s.size:Int):=by
 unfold tokN at he ⊢
 split
 ·simp only;omega
 split
 ·rename_i h1
  have hn:namR (cutR s i)=true:=by
   unfold namR
   rcases h1 with h1 | h1
   ·rw [h1];rfl
   ·rw [decide_eq_true h1];simp
  have h2:=nameE_lt s i h hn
  have h3:=nameE_bd s i (by omega)
  simp only
  omega
 split
 ·have:=figE_bd s i h
  simp only
  omega
 split
 ·rename_i h10 hn hd hq
  rw [if_neg h10,if_neg hn,if_neg hd,if_pos hq] at he
  unfold litN at he ⊢
  cases hl:litE s i with
  | none=>rw [hl] at he;simp at he
  | some e =>
   have hb:=litE_bd s i e hl
   rw [hl] at he
   simp only at he ⊢
   split
   ·rename_i h34
    rw [if_pos h34] at he
    split
    ·rename_i h5
     rw [if_pos h5] at he
     exact absurd he h5
    ·simp only;omega
   ·rename_i h34
    rw [if_neg h34] at he
    split
    ·rename_i h5
     rw [if_pos h5] at he
     exact absurd he h5
    ·simp only;omega
 split
 ·rename_i h5
  have:=(signN_fits s i sg h5).1
  simp only
  omega
 rename_i h10 hn hd hq hs
 rw [if_neg h10,if_neg hn,if_neg hd,if_neg hq,if_neg hs] at he
 split at he <;> simp at he
theorem toksF_fuel (s:ByteArray) (sg:List ByteArray):∀ (f g i:Nat),s.size - i≤f→s.size - i≤g→toksF s sg f i=toksF s sg g i:=by
 intro f
 induction f with
 | zero =>
  intro g i hf _
  cases g with
  | zero=>rfl
  | succ g=>rw [toksF,toksF,if_neg (by omega)]
 | succ f ih =>
  intro g i hf hg
  cases g with
  | zero=>rw [toksF,toksF,if_neg (by omega)]
  | succ g =>
   rw [toksF,toksF]
   split
   ·rename_i hi
    split
    ·exact ih g _ (by omega) (by omega)
    ·split
     ·rename_i h35
      have:=lineE_lt s i hi h35
      exact ih g _ (by omega) (by omega)
     ·split
      ·rfl
      ·rename_i he
       have:=tokN_end s sg i hi (by omega)
       rw [ih g _ (by omega) (by omega)]
   ·rfl
def toksAt (s:ByteArray) (sg:List ByteArray) (i:Nat):Option (List Tk) × Int × Int:=toksF s sg (s.size - i) i
theorem toksAt_ge (s:ByteArray) (sg:List ByteArray) (i:Nat) (h:s.size≤i):toksAt s sg i=(some [],0,0):=by
 unfold toksAt
 rw [toksF_fuel s sg _ 1 i (Nat.le_refl _) (by omega),toksF,if_neg (by omega)]
theorem toksAt_blank (s:ByteArray) (sg:List ByteArray) (i:Nat) (h:i<s.size) (hb:bn s i=9∨bn s i=13∨bn s i=32):toksAt s sg i=toksAt s sg (i+1):=by
 unfold toksAt
 rw [toksF_fuel s sg _ ((s.size - (i+1))+1) i (Nat.le_refl _) (by omega),toksF,if_pos h,if_pos hb]
theorem toksAt_note (s:ByteArray) (sg:List ByteArray) (i:Nat) (h:i<s.size) (hb:bn s i=35):toksAt s sg i=toksAt s sg (lineE s i):=by
 have:=lineE_lt s i h hb
 unfold toksAt
 rw [toksF_fuel s sg _ ((s.size - (i+1))+1) i (Nat.le_refl _) (by omega),toksF,if_pos h,if_neg (by omega),if_pos hb]
 exact toksF_fuel s sg _ _ _ (by omega) (by omega)
theorem toksAt_bad (s:ByteArray) (sg:List ByteArray) (i:Nat) (h:i<s.size) (hb:¬ (bn s i=9∨bn s i=13∨bn s i=32)) (h35:bn s i≠35) (he:(tokN s sg i).2.2≠0):toksAt s sg i=(none,(tokN s sg i).2.1,(tokN s sg i).2.2):=by
 unfold toksAt
 rw [toksF_fuel s sg _ ((s.size - (i+1))+1) i (Nat.le_refl _) (by omega),toksF,if_pos h,if_neg hb,if_neg h35,if_pos he]
theorem toksAt_tok (s:ByteArray) (sg:List ByteArray) (i e:Nat) (k:Int) (h:i<s.size) (hb:¬ (bn s i=9∨bn s i=13∨bn s i=32)) (h35:bn s i≠35) (he:tokN s sg i=(k,(e:Int),0)):toksAt s sg i=addTk [(k,i,e)] (toksAt s sg e):=by
 have h1:=tokN_end s sg i h (by rw [he])
 rw [he] at h1
 simp only at h1
 unfold toksAt
 rw [toksF_fuel s sg _ ((s.size - (i+1))+1) i (Nat.le_refl _) (by omega),toksF,if_pos h,if_neg hb,if_neg h35,he,if_neg (by simp)]
 simp only [Int.toNat_natCast]
 rw [toksF_fuel s sg _ (s.size - e) e (by omega) (Nat.le_refl _)]
def signC (c:Nat):Bool:=decide (32<c) && decide (c<127) && !(decide (48≤c) && decide (c≤57)) && !((decide (65≤c) && decide (c≤90)) || (decide (97≤c) && decide (c≤122))) && !(decide (c=34) || decide (c=35) || decide (c=39) || decide (c=92) || decide (c=95) || decide (c=96))
def signOk (g:ByteArray):Bool:=decide (1≤g.size) && decide (g.size≤3) && g.data.toList.all (fun b=>signC b.toNat)
def memB (l:List ByteArray) (g:ByteArray):Bool:=l.any (fun x=>x.data.toList == g.data.toList)
theorem memB_iff (l:List ByteArray) (g:ByteArray):memB l g=true ↔ g ∈ l:=by
 unfold memB
 rw [List.any_eq_true]
 constructor
 ·rintro ⟨x,hx,h⟩
  have:x=g:=ByteArray.ext (Array.toList_inj.1 (eq_of_beq h))
  exact this ▸ hx
 ·intro h
  exact ⟨g,h,by simp⟩
def signAtOk (sg:List ByteArray) (k:Nat):Bool:=signOk (sg.getD k ⟨#[]⟩) && !(memB (sg.take k) (sg.getD k ⟨#[]⟩))
def signsOk (sg:List ByteArray):Bool:=decide (sg.length≤64) && (List.range sg.length).all (signAtOk sg)
theorem signsOk_bad (sg:List ByteArray) (k:Nat) (hk:k<sg.length) (h:signAtOk sg k=false):signsOk sg=false:=by
 unfold signsOk
 rw [Bool.and_eq_false_iff]
 right
 rw [Bool.eq_false_iff]
 intro ha
 have:=List.all_eq_true.1 ha k (List.mem_range.2 hk)
 rw [h] at this
 cases this
theorem signsOk_good (sg:List ByteArray) (hl:sg.length≤64) (h:∀ k,k<sg.length→signAtOk sg k=true):signsOk sg=true:=by
 unfold signsOk
 rw [decide_eq_true hl,Bool.true_and]
 exact List.all_eq_true.2 fun k hk=>h k (List.mem_range.1 hk)
theorem signsOk_long (sg:List ByteArray) (hl:64<sg.length):signsOk sg=false:=by
 unfold signsOk
 rw [decide_eq_false (by omega),Bool.false_and]
def toksN (s:ByteArray) (sg:List ByteArray):Option (List Tk) × Int × Int :=
 if signsOk sg=false then (none,0,14) else if 524288<s.size then (none,524288,15) else toksAt s sg 0
end Go.Proofs.YtikbegmodacopaaGreatDoor
namespace Go.Proofs.YtikbegmodacopaaGreatDoor
open Go.RowKit Go.PlainAid
set_option linter.unusedVariables false
set_option maxRecDepth 100000
theorem letter_any (r:Int) (w:World):Calls Tryz.prog 198 #[.int .i32 r] w fun e w'=>e=.returned (.bool (letR r))∧w'=w:=by
 rcases (show r<65∨(65≤r∧r≤90)∨(90<r∧r<97)∨(97≤r∧r≤122)∨(122<r∧r<192)∨192≤r by omega) with a | ⟨a,b⟩ | ⟨a,b⟩ | ⟨a,b⟩ | ⟨a,b⟩ | a
 ·have e:letR r=false:=by unfold letR;simp;omega
  rw [e]
  clear e
  go_enter Tryz.func198,Tryz.ntmps198
  go_wp2
  go_ret
  exact ⟨by first | rfl | (simp;omega) | simp,rfl⟩
 ·have e:letR r=true:=by unfold letR;simp;omega
  rw [e]
  clear e
  go_enter Tryz.func198,Tryz.ntmps198
  go_wp2
  go_ret
  exact ⟨by first | rfl | (simp;omega) | simp,rfl⟩
 ·have e:letR r=false:=by unfold letR;simp;omega
  rw [e]
  clear e
  go_enter Tryz.func198,Tryz.ntmps198
  go_wp2
  go_ret
  exact ⟨by first | rfl | (simp;omega) | simp,rfl⟩
 ·have e:letR r=true:=by unfold letR;simp;omega
  rw [e]
  clear e
  go_enter Tryz.func198,Tryz.ntmps198
  go_wp2
  go_ret
  exact ⟨by first | rfl | (simp;omega) | simp,rfl⟩
 ·have e:letR r=false:=by unfold letR;simp;omega
  rw [e]
  clear e
  go_enter Tryz.func198,Tryz.ntmps198
  go_wp2
  go_ret
  exact ⟨by first | rfl | (simp;omega) | simp,rfl⟩
 ·have e:letR r=true:=by unfold letR;simp;omega
  rw [e]
  clear e
  go_enter Tryz.func198,Tryz.ntmps198
  go_wp2
  go_ret
  exact ⟨by first | rfl | (simp;omega) | simp,rfl⟩
theorem digit_any (r:Int) (w:World):Calls Tryz.prog 199 #[.int .i32 r] w fun e w'=>e=.returned (.bool (digR r))∧w'=w:=by
 rcases (show r<48∨(48≤r∧r≤57)∨57<r by omega) with a | ⟨a,b⟩ | a
 ·have e:digR r=false:=by unfold digR;simp;omega
  rw [e]
  clear e
  go_enter Tryz.func199,Tryz.ntmps199
  go_wp2
  go_ret
  exact ⟨by first | rfl | (simp;omega) | simp,rfl⟩
 ·have e:digR r=true:=by unfold digR;simp;omega
  rw [e]
  clear e
  go_enter Tryz.func199,Tryz.ntmps199
  go_wp2
  go_ret
  exact ⟨by first | rfl | (simp;omega) | simp,rfl⟩
 ·have e:digR r=false:=by unfold digR;simp;omega
  rw [e]
  clear e
  go_enter Tryz.func199,Tryz.ntmps199
  go_wp2
  go_ret
  exact ⟨by first | rfl | (simp;omega) | simp,rfl⟩
theorem named_any (r:Int) (w:World):Calls Tryz.prog 197 #[.int .i32 r] w fun e w'=>e=.returned (.bool (namR r))∧w'=w:=by
 have H1:=hide_ (letter_any r w)
 have H2:=hide_ (digit_any r w)
 unfold namR
 cases h1:letR r with
 | true =>
  rw [h1] at H1
  clear h1
  go_enter Tryz.func197,Tryz.ntmps197
  go_wp2_with fail
  refine H1.out.mono ?_
  rintro e w2 ⟨rfl,rfl⟩
  go_wp2
  go_ret
  exact ⟨by simp,rfl⟩
 | false =>
  rw [h1] at H1
  clear h1
  cases h2:digR r with
  | true =>
   rw [h2] at H2
   clear h2
   go_enter Tryz.func197,Tryz.ntmps197
   go_wp2_with fail
   refine H1.out.mono ?_
   rintro e w2 ⟨rfl,rfl⟩
   go_wp2_with fail
   refine H2.out.mono ?_
   rintro e w2 ⟨rfl,rfl⟩
   go_wp2
   go_ret
   exact ⟨by simp,rfl⟩
  | false =>
   rw [h2] at H2
   clear h2
   go_enter Tryz.func197,Tryz.ntmps197
   go_wp2_with fail
   refine H1.out.mono ?_
   rintro e w2 ⟨rfl,rfl⟩
   go_wp2_with fail
   refine H2.out.mono ?_
   rintro e w2 ⟨rfl,rfl⟩
   go_wp2
   go_ret
   exact ⟨by simp [show (r == 95)=decide (r=95) from by rw [Bool.eq_iff_iff];simp],rfl⟩
theorem hasPrefix_fits (s:ByteArray) (i:Nat) (g:ByteArray) (hi:i≤s.size):Lib.hasPrefix (s.extract i s.size).data.toList g.data.toList=decide (fitsAt s i g):=by
 have e1:(s.extract i s.size).data.toList=s.data.toList.drop i:=by
  rw [ByteArray.data_extract,Array.toList_extract,List.extract_eq_take_drop]
  exact List.take_of_length_le (Nat.le_of_eq (by rw [List.length_drop];rfl))
 have e2:∀ j,(s.extract i (i+j)).data.toList=(s.data.toList.drop i).take j:=fun j=>by
  rw [ByteArray.data_extract,Array.toList_extract,List.extract_eq_take_drop,Nat.add_sub_cancel_left]
 have hl:(s.data.toList.drop i).length=s.size - i:=by rw [List.length_drop];rfl
 rw [e1,Lib.hasPrefix]
 by_cases h:fitsAt s i g
 ·rw [decide_eq_true h]
  have h2:(s.data.toList.drop i).take g.size=g.data.toList:=by rw [← e2,h.2]
  rw [List.isPrefixOf_iff_prefix,← h2]
  exact List.take_prefix _ _
 ·rw [decide_eq_false h]
  refine Bool.eq_false_iff.2 fun hp=>h ?_
  rw [List.isPrefixOf_iff_prefix] at hp
  have h3:=hp.length_le
  rw [hl] at h3
  have h4:g.data.toList.length=g.size:=rfl
  refine ⟨by omega,?_⟩
  refine ByteArray.ext (Array.toList_inj.1 ?_)
  rw [e2,← h4]
  exact (List.prefix_iff_eq_take.1 hp).symm
set_option maxHeartbeats 1000000 in
theorem quoted_any (s:ByteArray) (i:Nat) (w:World) (hz:s.size≤1152921504606846976) (hi:i<s.size) :
  Calls Tryz.prog 218 #[.string s,.int .i64 i] w fun e w'=>e=.returned (.tuple #[.int .i64 ((litE s i).getD 0:Nat),.bool (litE s i).isSome])∧w'=w:=by
 have hbt:=get_bt s
 obtain ⟨q,hq⟩:∃ q,q=bn s i:=⟨_,rfl⟩
 have hbi:bt s i=(q:Int):=by rw [hq];exact bt_eq s i hi
 have HL:=hide_ (show litE s i=litF s q (s.size - (i+1)) (i+1) by rw [hq];rfl)
 obtain ⟨R,hR⟩:∃ R,R=litE s i:=⟨_,rfl⟩
 rw [← hR] at HL ⊢
 clear hq hR
 go_enter Tryz.func218,Tryz.ntmps218
 go_wp2
 go_loopw [6] (fun k wr=>∃ m:Nat,k=.int .i64 m∧m≤s.size+1∧Hid (R=litF s q (s.size - m) m)∧wr=w) (fun k _=>s.size+1 - (intOf k).toNat)
 case atStart=>exact ⟨i+1,by go_num,by omega,HL,rfl⟩
 case round =>
  clear HL
  obtain ⟨m,rfl,hm,HL,rfl⟩:=hrel
  by_cases hlt:m<s.size
  ·have hbm:bt s m=(bn s m:Int):=bt_eq s m hlt
   have hstep:litF s q (s.size - m) m=(if bn s m=q then some (m+1) else if bn s m=92 then litF s q (s.size - (m+1)) (m+2) else if bn s m=10 then none else litF s q (s.size - (m+1)) (m+1)):=by rw [show s.size - m=(s.size - (m+1))+1 by omega,litF,if_pos hlt]
   by_cases c1:bn s m=q
   ·rw [if_pos c1] at hstep
    have HR:=hide_ (HL.out.trans hstep)
    rw [c1] at hbm
    clear HL hstep c1
    go_wp2
    go_ret2
    exact ⟨by rw [HR.out];simp,rfl⟩
   ·rw [if_neg c1] at hstep
    have d1:((bn s m:Int) == (q:Int))=false:=by simp;omega
    have d1':(bt s m == (q:Int))=false:=by rw [hbm];exact d1
    by_cases c2:bn s m=92
    ·rw [if_pos c2,litF_fuel s q _ (s.size - (m+2)) (m+2) (by omega) (by omega)] at hstep
     have HR:=hide_ (HL.out.trans hstep)
     have d2:(bt s m == 92)=true:=by rw [hbm];simp;omega
     clear HL hstep c1 c2 d1 hbm
     go_wp2
     go_roundw
     case rel=>exact ⟨m+2,by go_num,by omega,HR,by trivial⟩
     case measure=>simp [intOf];omega
    ·rw [if_neg c2] at hstep
     have d2:(bt s m == 92)=false:=by rw [hbm];simp;omega
     by_cases c3:bn s m=10
     ·rw [if_pos c3] at hstep
      have HR:=hide_ (HL.out.trans hstep)
      have d3:(bt s m == 10)=true:=by rw [hbm];simp;omega
      clear HL hstep c1 c2 c3 d1 hbm
      go_wp2
      go_ret2
      exact ⟨by rw [HR.out];simp,rfl⟩
     ·rw [if_neg c3] at hstep
      have HR:=hide_ (HL.out.trans hstep)
      have d3:(bt s m == 10)=false:=by rw [hbm];simp;omega
      clear HL hstep c1 c2 c3 d1 hbm
      go_wp2
      go_roundw
      case rel=>exact ⟨m+1,by go_num,by omega,HR,by trivial⟩
      case measure=>simp [intOf];omega
  ·have HR:=hide_ (HL.out.trans (show litF s q (s.size - m) m=none by rw [show s.size - m=0 by omega];rfl))
   clear HL
   go_wp2
   go_ret2
   exact ⟨by rw [HR.out];simp,rfl⟩
set_option maxHeartbeats 1000000 in
theorem signed_any (s:ByteArray) (i:Nat) (A:Option Addr) (n c B:Nat) (sg:List ByteArray) (w:World) (hz:s.size≤1152921504606846976) (hi:i<s.size) (hn:n≤1048576) (hr:Reads w B 1 A n (sg.map Value.string)) (hB:B≤w.heap.size) :
  Calls Tryz.prog 203 #[.string s,.int .i64 i,.slice A n c] w fun e w'=>e=.returned (.string (signN s i sg))∧w'=w:=by
 have hlen:sg.length=n:=by have:=hr.1;simpa using this
 have HR:=hide_ hr
 have HLEN:=hide_ hlen
 have HBB:=hide_ hB
 clear hr hlen hB
 go_enter Tryz.func203,Tryz.ntmps203
 go_wp2
 go_loopw [7,12] (fun b k wr=>∃ m:Nat,m≤n∧k=.int .i64 m∧b=.string (signN s i (sg.take m))∧wr=w) (fun _ k _=>n - (intOf k).toNat)
 case atStart=>exact ⟨0,Nat.zero_le _,rfl,rfl,rfl⟩
 case round =>
  obtain ⟨m,hm,rfl,rfl,rfl⟩:=hrel
  by_cases hlt:m<n
  ·obtain ⟨g,hg⟩:∃ g,sg[m]?=some g:=⟨_,List.getElem?_eq_getElem (by have:=HLEN.out;omega)⟩
   obtain ⟨ad,rfl,hbk,hc⟩:=HR.out.2 (by omega)
   have hcm:=hc m (.string g) (by rw [List.getElem?_map,hg];rfl)
   have hbs:(ad.add m).block<wr.heap.size:=by rw [block_of_add];have:=HBB.out;omega
   have hst:=signN_take s i sg m g hg
   obtain ⟨bst,hbst⟩:∃ b,b=signN s i (sg.take m):=⟨_,rfl⟩
   rw [← hbst] at hst ⊢
   have HP:=hide_ (Tryz.strings_HasPrefix (s.extract i s.size) g wr)
   rw [hasPrefix_fits s i g (by omega)] at HP
   unfold bestS at hst
   clear hc hbk hg hbst
   by_cases h1:bst.size<g.size
   ·by_cases h2:fitsAt s i g
    ·rw [if_pos ⟨h1,h2⟩] at hst
     rw [decide_eq_true h2] at HP
     have HST:=hide_ hst
     clear hst h2
     go_wp2_with fail
     refine HP.out.mono ?_
     rintro e w2 ⟨rfl,rfl⟩
     go_wp2
     go_roundw
     case rel=>exact ⟨m+1,by omega,by go_num,by rw [HST.out],by trivial⟩
     case measure=>simp [intOf];omega
    ·rw [if_neg (fun h=>h2 h.2)] at hst
     rw [decide_eq_false h2] at HP
     have HST:=hide_ hst
     clear hst h2
     go_wp2_with fail
     refine HP.out.mono ?_
     rintro e w2 ⟨rfl,rfl⟩
     go_wp2
     go_roundw
     case rel=>exact ⟨m+1,by omega,by go_num,by rw [HST.out],by trivial⟩
     case measure=>simp [intOf];omega
   ·rw [if_neg (fun h=>h1 h.1)] at hst
    have HST:=hide_ hst
    have d1:decide (bst.size<g.size)=false:=by simpa using h1
    clear hst
    go_wp2
    go_roundw
    case rel=>exact ⟨m+1,by omega,by go_num,by rw [HST.out],by trivial⟩
    case measure=>simp [intOf];omega
  ·obtain rfl:m=n:=by omega
   have HT:=hide_ (show sg.take m=sg from List.take_of_length_le (by have:=HLEN.out;omega))
   go_wp2
   go_ret
   exact ⟨by rw [HT.out];rfl,rfl⟩
end Go.Proofs.YtikbegmodacopaaGreatDoor
namespace Go.Proofs.YtikbegmodacopaaGreatDoor
open Go.RowKit Go.PlainAid Go.Shelf
attribute [local go_sem] Oper.semAt_some
set_option linter.unusedVariables false
abbrev nameV:Value:=.func (.func 197) #[] #[]
def Named (pre:List (Nat × Int)):Prop:=∀ y ∈ pre,namR y.2=true
def StopR (i b:Nat) (w3:World) (c:Code) (pre:List (Nat × Int)) (W:World):Prop :=
 ∃ (q:List (Nat × Int)) (p0:Nat) (r0:Int),(c=.ret∧pre=q ++ [(p0,r0)]∧namR r0=false∧Named q)∧Boxed W b 3 (.int .i64 (i+p0:Nat))∧Below b w3 W
theorem stopR_own {i b B:Nat} {w3:World} (c:Code) (hb:b≤w3.heap.size) (hB:b≤B):OwnFrom B (StopR i b w3 c):=fun s W W' row hs hg hr=>by
 obtain ⟨q,p0,r0,h1,h2,h3⟩:=hs
 exact ⟨q,p0,r0,h1,(Own.from (boxed_own b 3 (fun (_:Unit)=>.int .i64 (i+p0:Nat))) B) () W W' row h2 hg hr,(ownFrom_below (β:=Unit) hb hB) () W W' row h3 hg hr⟩
set_option maxRecDepth 100000 in
set_option maxHeartbeats 1000000 in
theorem row_any (s:ByteArray) (i:Nat) (w:World) (hz:s.size≤140737488351232) (hi:i≤s.size) :
  Calls Tryz.prog 200 #[.string s,.int .i64 i,nameV] w fun e w'=>e=.returned (.int .i64 (nameE s i))∧Below w.heap.size w w':=by
 have mixed:Tryz.prog.follows .mixedOrders=true:=by kernel_rfl
 refine (callsIn_wide (n:=30)).1 ?_
 refine callsIn_of_wp_marks Tryz.func200 rfl trivial ?_ rfl
 simp only [Tryz.ntmps200,List.size_toArray,List.length_cons,List.length_nil,Nat.reduceAdd,Nat.reduceSub,Array.replicate_succ,Array.replicate_zero,List.push_toArray,List.append_toArray,List.nil_append,List.cons_append]
 gi_wp2_with fail
 refine ⟨trivial,?_⟩
 refine (callsIn_wide.2 (cutting_any (s.extract i s.size) _)).mono ?_
 rintro e w2 ⟨rfl,rfl⟩
 gi_wp2_with fail
 obtain ⟨t,ht⟩:∃ t,t=s.extract i s.size:=⟨_,rfl⟩
 have hts:t.size=s.size - i:=by rw [ht,size_ext]
 have hstop:∀ (q:List (Nat × Int)) (p0:Nat) (r0:Int),q ++ [(p0,r0)] <+: cuts t→Named q→namR r0=false→nameE s i=i+p0:=fun q p0 r0 h1 h2 h3=>by
  rw [ht,cuts_at] at h1
  have:=nameE_cuts s i hi q 0 (p0,r0) h1 h2 h3
  rw [Nat.add_zero] at this
  exact this
 have hall:Named (cuts t)→nameE s i=s.size:=fun h=>by
  rw [ht,cuts_at] at h
  have:=nameE_all s i hi _ 0 (Nat.le_refl _) (Nat.zero_le _) h
  rw [Nat.add_zero] at this
  exact this
 have HSTOP:=hide_ hstop
 have HALL:=hide_ hall
 have HTS:=hide_ hts
 rw [← ht] at ⊢
 clear ht hstop hall hts
 have b0:=(((Boxed.new w 3 (.int .i64 i)).alloc (.cells #[nameV] 236)).alloc (.cells #[.int .i64 0] 3)).alloc (.cells #[.string t] 9)
 have b1:=((Boxed.new (w.alloc (.cells #[.int .i64 i] 3)) 236 nameV).alloc (.cells #[.int .i64 0] 3)).alloc (.cells #[.string t] 9)
 have b2:=(Boxed.new ((w.alloc (.cells #[.int .i64 i] 3)).alloc (.cells #[nameV] 236)) 3 (.int .i64 0)).alloc (.cells #[.string t] 9)
 have b3:=Boxed.new (((w.alloc (.cells #[.int .i64 i] 3)).alloc (.cells #[nameV] 236)).alloc (.cells #[.int .i64 0] 3)) 9 (.string t)
 simp only [World.size_alloc] at b1 b2 b3
 have hB3:Below w.heap.size w ((((w.alloc (.cells #[.int .i64 i] 3)).alloc (.cells #[nameV] 236)).alloc (.cells #[.int .i64 0] 3)).alloc (.cells #[.string t] 9)):=((((Below.refl _ w).alloc (Nat.le_refl _) _).alloc (by simp) _).alloc (by simp;omega) _).alloc (by simp;omega) _
 have hsz:((((w.alloc (.cells #[.int .i64 i] 3)).alloc (.cells #[nameV] 236)).alloc (.cells #[.int .i64 0] 3)).alloc (.cells #[.string t] 9)).heap.size=w.heap.size+1+1+1+1:=by simp
 obtain ⟨w3,hw3⟩:∃ w3,(((w.alloc (.cells #[.int .i64 i] 3)).alloc (.cells #[nameV] 236)).alloc (.cells #[.int .i64 0] 3)).alloc (.cells #[.string t] 9)=w3:=⟨_,rfl⟩
 rw [hw3] at b0 b1 b2 b3 hB3 hsz ⊢
 clear hw3
 have HSZ:=hide_ hsz
 have hnb:w.heap.size+1+1+1<w3.heap.size:=by omega
 clear hsz
 refine rangeB (Bn:=w.heap.size+1+1+1) (s:=t) (P':=7) (Q':=8) (by omega) rfl (by omega) b3.cell
  (fun pre W=>Named pre∧(Boxed W (w.heap.size+1+1) 3 (.int .i64 0)∧Below (w.heap.size+1+1) w3 W))
  (StopR i (w.heap.size+1+1) w3)
  (OwnFrom.and (ownFrom_pure _ _) (OwnFrom.and (Own.from (boxed_own _ _ _) _) (ownFrom_below (by omega) (by omega))))
  (fun c=>stopR_own c (by omega) (by omega))
  ⟨fun y hy=>(by cases hy),b2,Below.refl _ _⟩ ?assign1 ?body1 ?done1 ?stop1
 case assign1 =>
  intro l x W K hK
  simp only [updA,List.setIfInBounds_toArray,List.set_cons_succ,List.set_cons_zero] at hK ⊢
  gi_wp2
  exact hK
 case done1 =>
  rintro D W hD ⟨hn,bN,hBW⟩ hkD
  have HR:=hide_ (HALL.out hn)
  have cN:=bN.cell
  have fN:=bN.frozen
  have lN:=bN.lt
  clear hn
  gi_wp2
  have hkE:(W.setCell ⟨w.heap.size+1+1,0,none⟩ (.int .i64 s.size)).heap[D]?=some (.deferred (some [])):=(Below.heap_setCell W ⟨w.heap.size+1+1,0,none⟩ (.int .i64 s.size) D (by dsimp only;omega)).trans hkD
  have bE:=bN.set (.int .i64 s.size)
  have hBE:Below (w.heap.size+1+1) w3 (W.setCell ⟨w.heap.size+1+1,0,none⟩ (.int .i64 s.size)):=hBW.setCell (p:=⟨w.heap.size+1+1,0,none⟩) (Nat.le_refl _) _
  have bF:Boxed ((W.setCell ⟨w.heap.size+1+1,0,none⟩ (.int .i64 s.size)).putObj D (.deferred none)) (w.heap.size+1+1) 3 (.int .i64 s.size):=(putObj_heap_ne (by omega)).trans bE
  have cF:=bF.cell
  refine ⟨by simp,.inl ⟨_,_,rfl,run_takeDeferred hkE,?_⟩⟩
  exact ⟨.int .i64 (nameE s i),by rw [HR.out];simp [results,Tryz.results200,go_sem,cF],rfl,(hB3.trans (hBE.mono (by omega))).trans (belowK_b (n₀:=w.heap.size) (w:=w) (Nat.le_refl _) _ D _ _ (by omega) hkE rfl rfl)⟩
 case stop1 =>
  rintro D c pre W hD hS ⟨q,p0,r0,⟨rfl,rfl,hx,hall⟩,bN,hBW⟩ hkD
  have HR:=hide_ (HSTOP.out q p0 r0 hS hall hx)
  have cN:=bN.cell
  gi_wp2
  have bF:Boxed (W.putObj D (.deferred none)) (w.heap.size+1+1) 3 (.int .i64 (i+p0:Nat)):=(putObj_heap_ne (by omega)).trans bN
  have cF:=bF.cell
  refine ⟨by simp,.inl ⟨_,_,rfl,run_takeDeferred hkD,?_⟩⟩
  exact ⟨.int .i64 (nameE s i),by rw [HR.out];simp [results,Tryz.results200,go_sem,cF],rfl,(hB3.trans (hBW.mono (by omega))).trans (belowK_b (n₀:=w.heap.size) (w:=w) (Nat.le_refl _) _ D _ _ (by omega) hkD rfl rfl)⟩
 case body1 =>
  rintro l pre ⟨p,r⟩ W hmem hl hr ⟨hall,bN,hBW⟩ hlen
  simp only [updA,List.setIfInBounds_toArray,List.set_cons_succ,List.set_cons_zero]
  have hpl:p<t.size:=(cuts_mem t _ hmem).1
  have hts:=HTS.out
  have cK:=(hBW.cell (p:=⟨w.heap.size,0,none⟩) (by dsimp only;omega)).trans b0.cell
  have cF:=(hBW.cell (p:=⟨w.heap.size+1,0,none⟩) (by dsimp only;omega)).trans b1.cell
  have cN:=bN.cell
  have fN:=bN.frozen
  have HA:=hide_ hall
  clear hmem hall
  cases hnr:namR r with
  | true =>
   have HN:=hide_ (named_any r)
   rw [hnr] at HN
   have HNR:=hide_ hnr
   clear hnr
   gi_wp2_with fail
   refine ⟨trivial,?_⟩
   refine (CallsIn.inRound l (callsIn_wide.2 (HN.out _))).mono ?_
   rintro e w4 ⟨rfl,rfl⟩
   gi_wp2
   exact ⟨KeepsFrom.refl _ _,⟨fun _=>rfl,(KeepsWalks.refl _)⟩,fun y hy=>by
    rcases List.mem_append.1 hy with hy | hy
    ·exact HA.out y hy
    ·rw [List.mem_singleton.1 hy];exact HNR.out,bN,hBW⟩
  | false =>
   have HN:=hide_ (named_any r)
   rw [hnr] at HN
   have HNR:=hide_ hnr
   clear hnr
   gi_wp2_with fail
   refine ⟨trivial,?_⟩
   refine (CallsIn.inRound l (callsIn_wide.2 (HN.out _))).mono ?_
   rintro e w4 ⟨rfl,rfl⟩
   gi_wp2
   exact ⟨(KeepsOthers.setCell _ _ _).from _,pre,p,r,⟨rfl,rfl,HNR.out,HA.out⟩,by rw [Int.natCast_add];exact bN.set (.int .i64 ((i:Int)+(p:Int))),hBW.setCell (p:=⟨w.heap.size+1+1,0,none⟩) (Nat.le_refl _) _⟩
end Go.Proofs.YtikbegmodacopaaGreatDoor
namespace Go.Proofs.YtikbegmodacopaaGreatDoor
open Go.RowKit Go.PlainAid
set_option linter.unusedVariables false
set_option maxRecDepth 100000
theorem fitsTwo (s:ByteArray) (i:Nat) (a b:UInt8):fitsAt s i ⟨#[a,b]⟩ ↔ i+2≤s.size∧s.get! i=a∧s.get! (i+1)=b:=by
 unfold fitsAt
 have e0:(⟨#[a,b]⟩:ByteArray).size=2:=rfl
 rw [e0]
 refine and_congr_right fun h=>?_
 have e2:(s.extract i (i+2)).data.toList=[s.get! i,s.get! (i+1)]:=by
  rw [ByteArray.data_extract,Array.toList_extract,List.extract_eq_take_drop,Nat.add_sub_cancel_left,drop_get s i (by omega),drop_get s (i+1) (by omega)]
  rfl
 constructor
 ·intro h2
  rw [h2] at e2
  simp only [List.cons.injEq] at e2
  exact ⟨e2.1.symm,e2.2.1.symm⟩
 ·rintro ⟨rfl,rfl⟩
  exact ByteArray.ext (Array.toList_inj.1 e2)
theorem hexB_eq (s:ByteArray) (i:Nat):hexB s i=(decide (fitsAt s i ⟨#[48,120]⟩) || decide (fitsAt s i ⟨#[48,88]⟩)):=by
 have key:∀ (k:Nat) (c:UInt8),s.get! k=c ↔ bn s k=c.toNat:=fun k c=>by
  unfold bn
  exact UInt8.toNat_inj.symm
 unfold hexB
 rw [Bool.eq_iff_iff]
 simp only [Bool.and_eq_true,Bool.or_eq_true,decide_eq_true_eq,fitsTwo,key]
 have e1:(48:UInt8).toNat=48:=rfl
 have e2:(120:UInt8).toNat=120:=rfl
 have e3:(88:UInt8).toNat=88:=rfl
 rw [e1,e2,e3]
 omega
theorem bits_or (x:Int) (h0:0≤x) (h1:x≤255):(bits BinOp.or IntKind.u8 x 32 == 101)=(decide (x=101) || decide (x=69))∧(bits BinOp.or IntKind.u8 x 32 == 112)=(decide (x=112) || decide (x=80)):=by
 obtain ⟨n,rfl⟩:=Int.eq_ofNat_of_zero_le h0
 have key:∀ n:Fin 256,(bits BinOp.or IntKind.u8 (n.val:Int) 32 == 101)=(decide ((n.val:Int)=101) || decide ((n.val:Int)=69))∧(bits BinOp.or IntKind.u8 (n.val:Int) 32 == 112)=(decide ((n.val:Int)=112) || decide ((n.val:Int)=80)):=by decide +kernel
 exact key ⟨n,by omega⟩
theorem figF_step (s:ByteArray) (X:Bool) (m:Nat) (h:m<s.size):figF s X (s.size - m) m=if figS s X m=true then figF s X (s.size - (m+1)) (m+1) else m:=by
 rw [show s.size - m=(s.size - (m+1))+1 by omega,figF,if_pos h]
theorem fig_class (c:Nat) (P:Bool):(c<65∧48≤c∧c≤57)∨c=46∨(c=43∧P=true)∨(c=43∧P=false)∨(c=45∧P=true)∨(c=45∧P=false)∨(c<65∧¬ (48≤c∧c≤57)∧c≠46∧c≠43∧c≠45)∨(65≤c∧c≤90)∨c=95∨(91≤c∧c≤96∧c≠95)∨(97≤c∧c≤122)∨123≤c:=by
 cases P <;> simp <;> omega
def aheadB (s:ByteArray) (X:Bool) (i m:Nat):Bool:=decide (i<m) && powB X (bn s (m - 1))
def goB (s:ByteArray) (P:Bool) (m:Nat):Bool:=figB (bn s m) || (P && (decide (bn s m=43) || decide (bn s m=45)))
def SmallIs (z:Int) (b1 b2:Bool):Prop:=(z == 101)=b1∧(z == 112)=b2
theorem fig_round (s:ByteArray) (X:Bool) (i m M R:Nat) (hm:m<s.size) (hd:48≤bn s i∧bn s i≤57) (hM:(i<m∧M=m)∨(m=i∧M=i+1)) (hF:R=figF s X (s.size - M) M) :
  (goB s (aheadB s X i m) m=true→R=figF s X (s.size - (m+1)) (m+1))∧(goB s (aheadB s X i m) m=false→R=m):=by
 rcases hM with ⟨h,rfl⟩ | ⟨rfl,rfl⟩
 ·have e:goB s (aheadB s X i M) M=figS s X M:=by
   unfold goB aheadB figS
   rw [decide_eq_true h,Bool.true_and]
  rw [figF_step s X M hm] at hF
  rw [e]
  constructor
  ·intro h1
   rw [hF,if_pos h1]
  ·intro h1
   rw [hF,if_neg (by rw [h1];decide)]
 ·have e:goB s (aheadB s X m m) m=true:=by
   unfold goB figB
   rw [decide_eq_true hd.1,decide_eq_true hd.2]
   rfl
  rw [e]
  exact ⟨fun _=>hF,fun h=>by cases h⟩
set_option maxHeartbeats 4000000 in
theorem figured_any (s:ByteArray) (i:Nat) (w:World) (hz:s.size≤140737488351232) (hi:i<s.size) (hd:48≤bn s i∧bn s i≤57) :
  Calls Tryz.prog 201 #[.string s,.int .i64 i] w fun e w'=>e=.returned (.int .i64 (figE s i))∧w'=w:=by
 obtain ⟨X,hX⟩:∃ X,X=hexB s i:=⟨_,rfl⟩
 obtain ⟨R,hR⟩:∃ R,R=figE s i:=⟨_,rfl⟩
 have hbt:=get_bt s
 have hp1:=Tryz.strings_HasPrefix (s.extract i s.size) ⟨#[48,120]⟩ w
 have hp2:=Tryz.strings_HasPrefix (s.extract i s.size) ⟨#[48,88]⟩ w
 rw [hasPrefix_fits s i _ (by omega)] at hp1 hp2
 have hhx:=hexB_eq s i
 rw [← hX] at hhx
 have HFE:=hide_ (show R=figF s X (s.size - (i+1)) (i+1) by rw [hR,hX];rfl)
 rw [← hR]
 obtain ⟨p1,hq1⟩:∃ p1,p1=decide (fitsAt s i ⟨#[48,120]⟩):=⟨_,rfl⟩
 obtain ⟨p2,hq2⟩:∃ p2,p2=decide (fitsAt s i ⟨#[48,88]⟩):=⟨_,rfl⟩
 rw [← hq1,← hq2] at hhx
 rw [← hq1] at hp1
 rw [← hq2] at hp2
 have H1:=hide_ hp1
 have H2:=hide_ hp2
 have HDG:=hide_ hd
 have HX:=hide_ hhx
 clear hp1 hp2 hX hR hd hhx hq1 hq2
 go_enter Tryz.func201,Tryz.ntmps201
 go_upto_region 1 with (fail)
 go_cut [5] from 10 (fun x wx=>x=.bool X∧w=wx)
 case first =>
  cases p1
  ·go_wp2_with fail
   refine H1.out.mono ?_
   rintro e w2 ⟨rfl,rfl⟩
   go_wp2_with fail
   refine H2.out.mono ?_
   rintro e w2 ⟨rfl,rfl⟩
   go_wp2_with fail
   go_meet
   exact ⟨by rw [HX.out];simp,rfl⟩
  ·go_wp2_with fail
   refine H1.out.mono ?_
   rintro e w2 ⟨rfl,rfl⟩
   go_wp2_with fail
   go_meet
   exact ⟨by rw [HX.out];simp,rfl⟩
 case rest =>
  obtain ⟨rfl,rfl⟩:=hcut
  clear H1 H2 HX
  go_wp2_with fail
  go_loopw [6] (fun k wr=>∃ m M:Nat,k=.int .i64 m∧m≤s.size∧((i<m∧M=m)∨(m=i∧M=i+1))∧Hid (R=figF s X (s.size - M) M)∧w=wr) (fun k _=>s.size - (intOf k).toNat)
  case atStart=>exact ⟨i,i+1,rfl,by omega,.inr ⟨rfl,rfl⟩,HFE,rfl⟩
  case round =>
   clear HFE
   obtain ⟨m,M,rfl,hm,hM,HF,rfl⟩:=hrel
   by_cases hlt:m<s.size
   ·have hrd:=fig_round s X i m M R hlt HDG.out hM HF.out
    have HIM:=hide_ (show i≤m by omega)
    obtain ⟨P,hP⟩:∃ P,P=aheadB s X i m:=⟨_,rfl⟩
    rw [← hP] at hrd
    obtain ⟨HG,HN⟩:Hid (goB s P m=true→R=figF s X (s.size - (m+1)) (m+1))∧Hid (goB s P m=false→R=m):=⟨hide_ hrd.1,hide_ hrd.2⟩
    obtain ⟨b1,hb1⟩:∃ b,b=(decide (i<m) && (decide (bn s (m - 1)=101) || decide (bn s (m - 1)=69))):=⟨_,rfl⟩
    obtain ⟨b2,hb2⟩:∃ b,b=(decide (i<m) && (decide (bn s (m - 1)=112) || decide (bn s (m - 1)=80))):=⟨_,rfl⟩
    have HP:=hide_ (show P=((b1 && !X) || (b2 && X)) by
     rw [hP,hb1,hb2]
     unfold aheadB powB
     cases X <;> cases decide (i<m) <;> simp)
    have HB1:=hide_ hb1
    have HB2:=hide_ hb2
    clear hrd hP hb1 hb2 HF hM
    go_upto_if 30 with (fail)
    go_cut [8] from 21 to 81 (fun a wx=>∃ z,a=.int .u8 z∧SmallIs z b1 b2∧w=wx)
    case first =>
     by_cases hgt:i<m
     ·have hg:(i:Int)<(m:Int):=by omega
      have e1:IntKind.i64.wrap ((m:Int) - 1)=((m - 1:Nat):Int):=by rw [IntWalk.i64_in _ (by omega)];omega
      have HZ:=hide_ (show SmallIs (bits BinOp.or IntKind.u8 (bt s (m - 1)) 32) b1 b2 by
       have h1:=bits_or (bt s (m - 1)) (bt_nonneg _ _) (bt_le _ _)
       have h2:=bt_eq s (m - 1) (by omega)
       unfold SmallIs
       rw [h1.1,h1.2,HB1.out,HB2.out,h2,decide_eq_true hgt,Bool.true_and,Bool.true_and]
       constructor <;> (rw [Bool.eq_iff_iff];simp;omega))
      clear e1
      go_wp2_with fail
      go_meet
      exact ⟨_,rfl,HZ.out,rfl⟩
     ·have hg:¬ (i:Int)<(m:Int):=by omega
      go_wp2_with fail
      go_meet
      exact ⟨0,rfl,by unfold SmallIs;rw [HB1.out,HB2.out,decide_eq_false hgt];exact ⟨rfl,rfl⟩,rfl⟩
    case rest =>
     obtain ⟨z,rfl,⟨z1,z2⟩,rfl⟩:=hcut
     clear HB1 HB2
     go_upto_region 8 with (fail)
     go_cut [9] from 21 to 81 (fun a wx=>a=.bool P∧w=wx)
     case first =>
      cases b1 <;> cases b2 <;> cases X
      all_goals
       go_wp2_with fail
       go_meet
       exact ⟨by rw [HP.out];rfl,rfl⟩
     case rest =>
      obtain ⟨rfl,rfl⟩:=hcut
      clear HP z1 z2
      have hbm:=bt_eq s m hlt
      have hb0:=bt_nonneg s m
      have hb1:=bt_le s m
      have HDIG:=hide_ (fun W=>digit_any (bt s m) W)
      have hcl:=fig_class (bn s m) P
      rcases hcl with hc | hc | ⟨hc,rfl⟩ | ⟨hc,rfl⟩ | ⟨hc,rfl⟩ | ⟨hc,rfl⟩ | hc | hc | hc | hc | hc | hc
      all_goals
       first | (have d95:(bt s m == 95)=true:=by rw [hbm];simp;omega) | (have d95:(bt s m == 95)=false:=by rw [hbm];simp;omega)
       first | (have d46:(bt s m == 46)=true:=by rw [hbm];simp;omega) | (have d46:(bt s m == 46)=false:=by rw [hbm];simp;omega)
       first | (have d43:(bt s m == 43)=true:=by rw [hbm];simp;omega) | (have d43:(bt s m == 43)=false:=by rw [hbm];simp;omega)
       first | (have d45:(bt s m == 45)=true:=by rw [hbm];simp;omega) | (have d45:(bt s m == 45)=false:=by rw [hbm];simp;omega)
       first | (have u1:decide (65≤bt s m)=true:=decide_eq_true (by omega)) | (have u1:decide (65≤bt s m)=false:=decide_eq_false (by omega))
       first | (have u2:decide (bt s m≤90)=true:=decide_eq_true (by omega)) | (have u2:decide (bt s m≤90)=false:=decide_eq_false (by omega))
       first | (have l1:decide (97≤bt s m)=true:=decide_eq_true (by omega)) | (have l1:decide (97≤bt s m)=false:=decide_eq_false (by omega))
       first | (have l2:decide (bt s m≤122)=true:=decide_eq_true (by omega)) | (have l2:decide (bt s m≤122)=false:=decide_eq_false (by omega))
       have hdg:digR (bt s m)=decide (48≤bn s m∧bn s m≤57):=by unfold digR;rw [hbm,Bool.eq_iff_iff];simp;omega
       rw [hdg] at HDIG
       first | rw [decide_eq_true (by omega)] at HDIG | rw [decide_eq_false (by omega)] at HDIG
      all_goals
       first
        | have HST:=hide_ (HG.out (by unfold goB figB;simp;omega))
        | have HST:=hide_ (HN.out (by unfold goB figB;simp;omega))
       clear hdg hc hbm HG HN
       go_wp2_with fail
       refine (HDIG.out _).mono ?_
       rintro e w5 ⟨rfl,rfl⟩
       clear HDIG
       go_wp2
       first
        | (go_roundw
           case rel=>(repeat apply Exists.intro);exact ⟨⟨m+1,m+1,by go_num,by omega,.inl ⟨by have:=HIM.out;omega,rfl⟩,HST,by trivial⟩,rfl⟩
           case measure=>simp [intOf];omega)
        | (go_roundw
           case rel=>exact ⟨m+1,m+1,by go_num,by omega,.inl ⟨by have:=HIM.out;omega,rfl⟩,HST,by trivial⟩
           case measure=>simp [intOf];omega)
        | (go_ret
           exact ⟨by rw [HST.out];rfl,by trivial⟩)
   ·have HR:=hide_ (show R=m by
     rcases hM with ⟨_,rfl⟩ | ⟨rfl,rfl⟩
     ·rw [HF.out,show s.size - M=0 by omega];rfl
     ·omega)
    clear HF hM
    go_wp2
    go_ret
    exact ⟨by rw [HR.out];rfl,by trivial⟩
end Go.Proofs.YtikbegmodacopaaGreatDoor
namespace Go.Proofs.YtikbegmodacopaaGreatDoor
open Go.RowKit Go.PlainAid
set_option linter.unusedVariables false
set_option maxRecDepth 100000
abbrev cutset:ByteArray:=⟨#[33,36,37,38,40,41,42,43,44,45,46,47,58,59,60,61,62,63,64,91,93,94,123,124,125,126]⟩
theorem drop_nil {α:Type} (p:α→Bool) (l:List α):(l.dropWhile p=[]) ↔ ∀ x ∈ l,p x=true:=by
 induction l with
 | nil=>simp
 | cons a l ih =>
  rw [List.dropWhile_cons]
  by_cases h:p a=true
  ·rw [if_pos h,ih]
   simp [h]
  ·rw [if_neg h]
   simp [h]
theorem drop_head {α:Type} (p:α→Bool) (l:List α) (a:α) (r:List α) (h:l.dropWhile p=a :: r):p a=false:=by
 induction l with
 | nil=>cases h
 | cons b l ih =>
  rw [List.dropWhile_cons] at h
  by_cases hb:p b=true
  ·rw [if_pos hb] at h
   exact ih h
  ·rw [if_neg hb] at h
   injection h with h1 h2
   subst h1
   simpa using hb
theorem trim_nil (l cs:List UInt8):Lib.trimS l cs=[] ↔ ∀ x ∈ l,cs.contains x=true:=by
 unfold Lib.trimS Lib.trimLeftS Lib.trimRightS
 rw [drop_nil]
 constructor
 ·intro h
  cases e:List.dropWhile (fun x=>cs.contains x) l.reverse with
  | nil =>
   rw [drop_nil] at e
   intro x hx
   exact e x (List.mem_reverse.2 hx)
  | cons a r =>
   rw [e] at h
   have h1:=h a (List.mem_reverse.2 (List.mem_cons_self ..))
   have h2:=drop_head (fun x=>cs.contains x) l.reverse a r e
   rw [h1] at h2
   cases h2
 ·intro h x hx
  refine h x ?_
  rw [List.mem_reverse] at hx
  exact List.mem_reverse.1 ((List.dropWhile_suffix _).subset hx)
theorem cutset_sign (b:UInt8):cutset.data.toList.contains b=signC b.toNat:=by
 have key:∀ n:Fin 256,cutset.data.toList.contains (UInt8.ofNat n.val)=signC (UInt8.ofNat n.val).toNat:=by decide +kernel
 have:=key ⟨b.toNat,b.toNat_lt⟩
 simpa using this
theorem trim_sign (g:ByteArray):(Lib.trimS g.data.toList cutset.data.toList=[]) ↔ g.data.toList.all (fun b=>signC b.toNat)=true:=by
 rw [trim_nil,List.all_eq_true]
 constructor
 ·intro h x hx
  rw [← cutset_sign]
  exact h x hx
 ·intro h x hx
  rw [cutset_sign]
  exact h x hx
theorem contains_take (sg:List ByteArray) (k:Nat) (g:ByteArray):Lib.containsS (sg.take k) g=memB (sg.take k) g:=by
 rw [Bool.eq_iff_iff,Lib.containsS_iff,memB_iff]
set_option maxHeartbeats 2000000 in
theorem fit_any (A:Option Addr) (n c B:Nat) (sg:List ByteArray) (w:World) (hn:n≤140737488351232) (hc:n≤c) (hr:Reads w B 1 A n (sg.map Value.string)) (hB:B≤w.heap.size) :
  Calls Tryz.prog 183 #[.slice A n c] w fun e w'=>e=.returned (.bool (signsOk sg))∧Below w.heap.size w w':=by
 have hlen:sg.length=n:=by have:=hr.1;simpa using this
 by_cases hbig:64<n
 ·rw [signsOk_long sg (by omega)]
  have d0:decide (64<(n:Int))=true:=decide_eq_true (by omega)
  clear hlen hr
  go_enter Tryz.func183,Tryz.ntmps183
  go_wp2
  go_ret
  exact ⟨rfl,Below.refl _ _⟩
 have HG:=hide_ (fun h=>signsOk_good sg (by omega) h)
 have HBAD:=hide_ (fun k hk h=>signsOk_bad sg k hk h)
 have d64:decide (64<(n:Int))=false:=decide_eq_false (by omega)
 obtain ⟨R,hR⟩:∃ R,R=signsOk sg:=⟨_,rfl⟩
 rw [← hR] at HG HBAD ⊢
 clear hR
 have HR:=hide_ hr
 have HLEN:=hide_ hlen
 have HBB:=hide_ hB
 clear hr hlen hB
 go_enter Tryz.func183,Tryz.ntmps183
 go_wp2
 go_loopw [10] (fun k wr=>∃ m:Nat,m≤n∧k=.int .i64 m∧Hid (∀ j,j<m→signAtOk sg j=true)∧Below w.heap.size w wr) (fun k _=>n - (intOf k).toNat)
 case atStart=>exact ⟨0,Nat.zero_le _,rfl,hide_ (fun j hj=>absurd hj (by omega)),Below.refl _ _⟩
 case round =>
  obtain ⟨m,hm,rfl,HM,hb⟩:=hrel
  by_cases hlt:m<n
  ·obtain ⟨g,hg⟩:∃ g,sg[m]?=some g:=⟨_,List.getElem?_eq_getElem (by have:=HLEN.out;omega)⟩
   obtain ⟨ad,rfl,hbk,hcl⟩:=(HR.out.below (hb.mono HBB.out)).2 (by omega)
   have hsp:ad.spot=none:=by
    cases hs0:sg with
    | nil=>have:=HLEN.out;rw [hs0] at this;simp at this;omega
    | cons g0 r =>
     have h0:=hcl 0 (.string g0) (by rw [hs0];rfl)
     have:=World.cell?_spot h0
     simpa [Addr.add] using this
   obtain ⟨b,o,sp⟩:=ad
   simp only at hsp
   subst hsp
   have hall:∀ j,j<sg.length→wr.cell? ⟨b,o+j,none⟩=some (.string (sg.getD j ByteArray.empty)):=fun j hj=>by
    have:=hcl j (.string (sg.getD j ByteArray.empty)) (by rw [List.getElem?_map,List.getD_eq_getElem?_getD,List.getElem?_eq_getElem hj];rfl)
    rw [← this]
    congr 1
    unfold Addr.add
    split <;> simp_all
   have hgd:sg.getD m ⟨#[]⟩=g:=by rw [List.getD_eq_getElem?_getD,hg];rfl
   have hcm:wr.cell? ⟨b,o+m,none⟩=some (.string g):=by
    have:=hall m (by have:=HLEN.out;omega)
    rw [this,List.getD_eq_getElem?_getD,hg]
    rfl
   have hbs:b<wr.heap.size:=by have:=HBB.out;have:=hb.size;simp only at hbk;omega
   have HCT:=hide_ (show ∀ (C:Nat) (W:World),Below wr.heap.size wr W→Calls Tryz.prog 194 #[.slice (some ⟨b,o,none⟩) m C,.string g] W fun e w'=>e=.returned (.bool (memB (sg.take m) g))∧w'=W from fun C W hW=>by
    rcases Nat.eq_zero_or_pos m with h0 | h0
    ·subst h0
     exact Tryz.slices_Contains_string_empty _ C g W
    ·rw [← contains_take]
     exact Tryz.slices_Contains_string b o m C sg g W (by have:=HLEN.out;omega) (by omega) (fun j hj=>(hW.cell (p:=⟨b,o+j,none⟩) hbs).trans (hall j hj)))
   have HSA:=hide_ (show signAtOk sg m=(signOk g && !(memB (sg.take m) g)) by unfold signAtOk;rw [hgd])
   have HBm:=hide_ (fun h=>HBAD.out m (by have:=HLEN.out;omega) h)
   have HB:=hide_ hb
   have HSZ:=hide_ hb.size
   have HALL:=hide_ hall
   clear hcl hall hgd hg hbk hb
   by_cases h1:g.size<1
   ·have HRF:=hide_ (HBm.out (by rw [HSA.out];unfold signOk;rw [decide_eq_false (by omega:¬ 1≤g.size)];rfl))
    have d1:decide ((g.size:Int)<1)=true:=decide_eq_true (by omega)
    clear h1
    go_wp2
    go_ret
    exact ⟨by rw [HRF.out];rfl,HB.out⟩
   by_cases h3:3<g.size
   ·have HRF:=hide_ (HBm.out (by rw [HSA.out];unfold signOk;rw [decide_eq_false (by omega:¬ g.size≤3)];simp))
    have d1:decide ((g.size:Int)<1)=false:=decide_eq_false (by omega)
    have d3:decide (3<(g.size:Int))=true:=decide_eq_true (by omega)
    go_wp2
    go_ret
    exact ⟨by rw [HRF.out];rfl,HB.out⟩
   have d1:decide ((g.size:Int)<1)=false:=decide_eq_false (by omega)
   have d3:decide (3<(g.size:Int))=false:=decide_eq_false (by omega)
   have HTR:=hide_ (show ∀ W:World,Calls Tryz.prog 193 #[.string g,.string cutset] W fun e w'=>e=.returned (.string ⟨(Lib.trimS g.data.toList cutset.data.toList).toArray⟩)∧Below W.heap.size W w' from fun W =>
    Any.strings_Trim_laid Tryz.lays160 (by kernel_rfl) g cutset W (by omega) (by decide) (ascii_of_all (by decide)))
   cases htr:g.data.toList.all (fun b=>signC b.toNat) with
   | false =>
    have HRF:=hide_ (HBm.out (by rw [HSA.out];unfold signOk;rw [htr];simp))
    obtain ⟨t,ht⟩:∃ t:ByteArray,t=⟨(Lib.trimS g.data.toList cutset.data.toList).toArray⟩:=⟨_,rfl⟩
    have htn:0<t.size:=by
     have h9:Lib.trimS g.data.toList cutset.data.toList≠[]:=fun h9=>by
      have:=(trim_sign g).1 h9
      rw [htr] at this
      cases this
     rw [ht]
     exact List.length_pos_iff.2 h9
    rw [← ht] at HTR
    have dne:=not_empty t htn
    clear ht htr HBm HSA h1 h3 htn
    go_wp2_with fail
    refine (HTR.out _).mono ?_
    rintro e w4 ⟨rfl,hb4⟩
    have HB4:=hide_ (HB.out.trans (hb4.mono HSZ.out))
    clear hb4
    go_wp2
    go_ret
    exact ⟨by rw [HRF.out];rfl,HB4.out⟩
   | true =>
    rw [(trim_sign g).2 htr] at HTR
    cases hmb:memB (sg.take m) g with
    | true =>
     have HRF:=hide_ (HBm.out (by rw [HSA.out,hmb];simp))
     rw [hmb] at HCT
     clear htr HBm HSA h1 h3 hmb
     go_wp2_with fail
     refine (HTR.out _).mono ?_
     rintro e w4 ⟨rfl,hb4⟩
     have HB4:=hide_ (HB.out.trans (hb4.mono HSZ.out))
     have HW4:=hide_ hb4
     clear hb4
     go_wp2_with fail
     refine (HCT.out _ _ HW4.out).mono ?_
     rintro e w5 ⟨rfl,rfl⟩
     go_wp2
     go_ret
     exact ⟨by rw [HRF.out];rfl,HB4.out⟩
    | false =>
     have HNX:=hide_ (show signAtOk sg m=true by
      rw [HSA.out,hmb]
      unfold signOk
      rw [htr,decide_eq_true (by omega:1≤g.size),decide_eq_true (by omega:g.size≤3)]
      rfl)
     rw [hmb] at HCT
     clear htr HBm HSA h1 h3 hmb
     go_wp2_with fail
     refine (HTR.out _).mono ?_
     rintro e w4 ⟨rfl,hb4⟩
     have HB4:=hide_ (HB.out.trans (hb4.mono HSZ.out))
     have HW4:=hide_ hb4
     clear hb4
     go_wp2_with fail
     refine (HCT.out _ _ HW4.out).mono ?_
     rintro e w5 ⟨rfl,rfl⟩
     go_wp2
     go_roundw
     case rel=>exact ⟨m+1,by omega,by go_num,hide_ (fun j hj=>by
      rcases Nat.lt_or_ge j m with h | h
      ·exact HM.out j h
      ·obtain rfl:j=m:=by omega
       exact HNX.out),HB4.out⟩
     case measure=>simp [intOf];omega
  ·obtain rfl:m=n:=by omega
   have HRT:=hide_ (HG.out (fun k hk=>HM.out k (by have:=HLEN.out;omega)))
   have HB:=hide_ hb
   clear hb
   go_wp2
   go_ret
   exact ⟨by rw [HRT.out];rfl,HB.out⟩
end Go.Proofs.YtikbegmodacopaaGreatDoor
