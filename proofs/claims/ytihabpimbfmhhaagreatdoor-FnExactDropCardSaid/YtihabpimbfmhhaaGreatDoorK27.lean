/- The texts Ub, Uc, SplitS, one behind the other. -/
import Derived.Test.YtihabpimbfmhhaaGreatDoorK25
import Derived.Test.YtihabpimbfmhhaaGreatDoorK26
import Derived.Lib.Split
import Derived.Test.YtihabpimbfmhhaaGreatDoorK14
import Derived.Test.YtihabpimbfmhhaaGreatDoorK21
namespace Go.Proofs.YtihabpimbfmhhaaGreatDoor.Ev
open Go Go.RowKit
set_option linter.unusedVariables false
set_option linter.unusedSimpArgs false
noncomputable section
def ji (b:Int):aa→aa→List aa
 |cur,[]=>[cur]
 |cur,x::r=>bif decide (by8 x=b)then cur::ji b [] r else ji b (cur++[x]) r
theorem ne (b:Int) (cur:aa) (x:UInt8) (r:aa):ji b cur (x::r)=bif decide (by8 x=b)then cur::ji b [] r else ji b (cur++[x]) r:=by rw [ji]
def eZ (s:aa) (b:Int):List aa:=ji b [] s
theorem Fb {s p cur r:aa} {lo hi:Int} (h:s=p++(cur++r)) (hlo:lo=(p.length:Int)) (hhi:hi=lo+(cur.length:Int)):Ev.cut s lo hi=cur:=by
 subst h hlo hhi
 unfold Ev.cut
 rw [show((p.length:Int)+(cur.length:Int)).toNat=p.length+cur.length by omega,show((p.length:Int)).toNat=p.length by omega]
 rw [List.take_append]
 simp
theorem zK (b:Int): ∀(r cur:aa),(aw r b).length≠r.length→ji b cur r=(cur++aw r b)::eZ (r.drop ((aw r b).length+1)) b
 | [],cur,h=>absurd rfl h
 |x::r,cur,h=>by
  unfold aw at h⊢
  rw [List.takeWhile_cons]at h⊢
  unfold ji
  cases c:decide (by8 x=b)
  ·rw [c]at h
   simp only [Bool.not_false,if_true,List.length_cons]at h
   have ih:=zK b r (cur++[x]) (by unfold aw;omega)
   unfold aw at ih
   rw [cond_false,ih]
   simp
  ·simp [eZ]
theorem uI (b:Int): ∀(r cur:aa),(aw r b).length=r.length→ji b cur r=[cur++r]
 | [],cur,h=>by simp [ji]
 |x::r,cur,h=>by
  unfold aw at h
  rw [List.takeWhile_cons]at h
  unfold ji
  cases c:decide (by8 x=b)
  ·rw [c]at h
   simp only [Bool.not_false,if_true,List.length_cons]at h
   rw [cond_false,uI b r (cur++[x]) (by unfold aw;omega)]
   simp
  ·rw [c]at h;simp at h
theorem eM (s:aa) (b:Int):(aw s b).length≤s.length:=(List.takeWhile_sublist _).length_le
theorem nf (s:aa) (b:Int):s.take (aw s b).length=aw s b:=by
 have h:aw s b<+:s:=List.takeWhile_prefix _
 exact(List.prefix_iff_eq_take.1 h).symm
theorem pI (c:UInt8) (s:aa):Lib.index s [c]=bif decide ((aw s (by8 c)).length=s.length)then-1 else((aw s (by8 c)).length:Int):=by
 have h:=kX c s
 unfold pH Lib.cut at h
 have hg:=Lib.index_ge s [c]
 cases d:decide ((aw s (by8 c)).length=s.length)
 ·rw [d]at h
  by_cases h0:0≤Lib.index s [c]
  ·rw [if_pos h0]at h
   simp only [Prod.mk.injEq]at h
   have:=congrArg List.length h.1
   have hlt:(Lib.index s [c]).toNat≤s.length:=by
    have:=Lib.index_le s [c]
    omega
   rw [List.length_take]at this
   rw [cond_false];omega
  ·rw [if_neg h0]at h
   simp only [Prod.mk.injEq,Bool.not_false]at h
   exact absurd h.2.2 (by decide)
 ·rw [d]at h
  by_cases h0:0≤Lib.index s [c]
  ·rw [if_pos h0]at h
   simp only [Prod.mk.injEq,Bool.not_true]at h
   exact absurd h.2.2 (by decide)
  ·rw [cond_true];omega
theorem B3 (c:UInt8): ∀(bC:Nat) (s:aa),s.length<bC→Lib.splitK [c] 0 (Lib.countFrom [c] bC s) s=eZ s (by8 c):=by
 intro bC
 induction bC with
 |zero=>intro s h;omega
 |succ bC ih=>
  intro s h
  unfold Lib.countFrom
  rw [pI]
  cases d:decide ((aw s (by8 c)).length=s.length)
  ·have d':=of_decide_eq_false d
   rw [cond_false]
   have e:(((aw s (by8 c)).length:Int)== -1)=false:=by rw [beq_eq_false_iff_ne];omega
   have hle:=eM s (by8 c)
   rw [e]
   simp only [Bool.false_eq_true,if_false]
   rw [Nat.add_comm 1]
   unfold Lib.splitK
   rw [pI,d,cond_false,e]
   simp only [Bool.false_eq_true,if_false,Int.toNat_natCast,Nat.add_zero,List.length_singleton]
   rw [ih (s.drop _) (by rw [List.length_drop];omega),nf]
   unfold eZ
   rw [zK _ s [] d']
   rfl
  ·rw [cond_true]
   simp only [BEq.rfl,if_true]
   unfold Lib.splitK eZ
   rw [uI _ s [] (of_decide_eq_true d)]
   rfl
theorem Fe (c:UInt8) (s:aa):Lib.split s [c]=eZ s (by8 c):=B3 c _ s (Nat.lt_succ_self _)
theorem Ff (b:Int): ∀(r cur:aa),ji b cur r≠ []
 | [],cur=>by simp [ji]
 |x::r,cur=>by
  unfold ji
  cases decide (by8 x=b)
  ·exact Ff b r _
  ·simp
theorem rA (b:Int): ∀(r cur:aa),(ji b cur r).length≤r.length+1
 | [],cur=>by simp [ji]
 |x::r,cur=>by
  unfold ji
  cases decide (by8 x=b)
  ·have:=rA b r (cur++[x]);simp only [cond_false,List.length_cons];omega
  ·have:=rA b r [];simp only [cond_true,List.length_cons];omega
theorem ng (s:aa) (b:Int):(eZ s b).length≤s.length+1:=rA b s []
theorem rB (b:Int) (p:Int→Bool): ∀(r cur:aa),((ji b cur r).all fun s=>a7 p s)=(a7 p cur&&a7 (fun n=>decide (n=b)||p n) r)
 | [],cur=>by simp [ji,a7]
 |x::r,cur=>by
  unfold ji
  cases c:decide (by8 x=b)
  ·rw [cond_false,rB b p r (cur++[x])]
   have e1:a7 p (cur++[x])=(a7 p cur&&p (by8 x)):=by simp [a7]
   have e2:a7 (fun n=>decide (n=b)||p n) (x::r)=((decide (by8 x=b)||p (by8 x))&&a7 (fun n=>decide (n=b)||p n) r):=rfl
   rw [e1,e2,c,Bool.false_or,Bool.and_assoc]
  ·rw [cond_true,List.all_cons,rB b p r []]
   have e2:a7 (fun n=>decide (n=b)||p n) (x::r)=((decide (by8 x=b)||p (by8 x))&&a7 (fun n=>decide (n=b)||p n) r):=rfl
   rw [e2,c]
   simp [a7]
def co (n:Int):Int:=bif bb n then n-48 else bif decide (97≤n)&&decide (n≤102)then n-97+10 else bif decide (65≤n)&&decide (n≤70)then n-65+10 else-1
def kA (n:Int):Bool:=eX n||ww n||bb n||decide (n=45)||decide (n=46)||decide (n=95)||decide (n=126)
def upI (n:Int):Int:=bif eX n then n-32 else n
def Fg:aa:=[48,49,50,51,52,53,54,55,56,57,65,66,67,68,69,70]
theorem nh (n:Int):co n<16:=by
 unfold co bb
 cases h:decide (48≤n)&&decide (n≤57)
 ·rw [cond_false]
  cases h2:decide (97≤n)&&decide (n≤102)
  ·rw [cond_false]
   cases h3:decide (65≤n)&&decide (n≤70)
   ·rw [cond_false];omega
   ·simp only [Bool.and_eq_true,decide_eq_true_eq]at h3;rw [cond_true];omega
  ·simp only [Bool.and_eq_true,decide_eq_true_eq]at h2;rw [cond_true];omega
 ·simp only [Bool.and_eq_true,decide_eq_true_eq]at h;rw [cond_true];omega
def cg (a b:UInt8):Int:=16*co (by8 a)+co (by8 b)
def ni (c a b:UInt8):Bool:=decide (by8 c=37)&& !decide (co (by8 a)<0)&& !decide (co (by8 b)<0)
def pJ (a b:UInt8):aa:=bif kA (cg a b)then [UInt8.ofNat (cg a b).toNat]else [37,UInt8.ofNat (upI (by8 a)).toNat,UInt8.ofNat (upI (by8 b)).toNat]
def cA:aa→aa
 | []=>[]
 | [c]=>[c]
 | [c,d]=>[c,d]
 |c::a::b::r=>bif ni c a b then pJ a b++cA r else c::cA (a::b::r)
theorem iC: ∀s:aa,(cA s).length≤s.length
 | []=>Nat.le_refl _
 | [c]=>Nat.le_refl _
 | [c,d]=>Nat.le_refl _
 |c::a::b::r=>by
  unfold cA
  cases ni c a b
  ·have:=iC (a::b::r);simp only [cond_false,List.length_cons]at this⊢;omega
  ·have:=iC r
   have h:(pJ a b).length≤3:=by unfold pJ;cases kA (cg a b)<;>simp
   simp only [cond_true,List.length_append,List.length_cons];omega
theorem pK (r:aa):cA (47::r)=47::cA r:=by
 cases r with
 |nil=>rfl
 |cons a r=>cases r with
  |nil=>rfl
  |cons b r=>
   have e:ni 47 a b=false:=by unfold ni;rw [show decide (by8 47=37)=false from rfl];rfl
   unfold cA
   rw [e,cond_false]
   cases r<;>rfl
def xk (s:aa):Bool:=decide (s=[46])||decide (s=[46,46])
def dc (out:List aa) (s:aa):List aa:=bif decide (s=[46])then out else bif decide (s=[46,46])then out.dropLast else out++[s]
def gM (l:List aa):List aa:=l.foldl dc []++(bif xk (l.getLastD [])then [[]]else [])
theorem nj (out:List aa) (s:aa):(dc out s).length≤out.length+1:=by
 unfold dc
 cases decide (s=[46])
 ·cases decide (s=[46,46])
  ·simp
  ·simp;omega
 ·simp
def jV (p:aa):Bool:=decide (p.length≤200)&&a7 bO p&& !cB p 35&& !cB p 63
def aJ (p:aa):aa:=match p with
 |47::r=>bif jV (47::r)then 47::fx (gM (eZ (cA r) 47)) [47]else []
 |_=>[]
def hoB (n:Int):Bool:=eX n||bb n||decide (n=45)||decide (n=46)
def f7 (h:aa):Bool:=decide (1≤h.length)&&decide (h.length≤60)&&a7 hoB h&& !inP (eZ h 46) []
def rC:aa:=[104,116,116,112,58,47,47]
def K6 (po:Int):aa:=bif decide (po=80)then []else 58::bF po
def zL (q:aa) (hq:Bool):aa:=bif hq then 63::q else []
def n8 (h:aa) (po:Int) (pa q:aa) (hq:Bool):aa:=rC++h++K6 po++pa++zL q hq
def aK (h:aa) (po:Int) (pa q:aa) (hq:Bool):Bool:=
 f7 h&&(decide (1≤po)&&decide (po≤65535))&& !decide (pa=[])&&decide (aJ pa=pa)&&a7 bO q&& !cB q 35&&(hq||decide (q=[]))&&decide ((n8 h po pa q hq).length≤200)
structure Ur where
 h:aa
 po:Int
 pa:aa
 q:aa
 hq:Bool
def u0:Ur:=⟨[],0,[],[],false⟩
def jW (r:aa):aa:=aw r 63
def oj (r:aa):aa:=aw (jW r) 47
def B4 (a:aa):Int×Bool:=bif decide ((aw a 58).length<a.length)then eY (a.drop ((aw a 58).length+1))else(80,true)
def K7 (r:aa):aa:=bif decide ((oj r).length< (jW r).length)then aJ ((jW r).drop (oj r).length)else [47]
def Ii (r:aa):Ur:=⟨aH (aw (oj r) 58),(B4 (oj r)).1,K7 r,bif decide ((jW r).length<r.length)then r.drop ((jW r).length+1)else [],decide ((jW r).length<r.length)⟩
def pL (s:aa):Bool:=decide (s.length≤200)&&decide (7≤s.length)&&a7 bO s&& !cB s 35&&decide (aH (s.take 7)=rC)
def Ur.ok (u:Ur):Bool:=aK u.h u.po u.pa u.q u.hq
def aP (s:aa):Ur×Bool:=bif pL s&&(B4 (oj (s.drop 7))).2&&(Ii (s.drop 7)).ok then(Ii (s.drop 7),true)else(u0,false)
def Ur.text (u:Ur):aa:=n8 u.h u.po u.pa u.q u.hq
def cZ (s:aa):aa×Bool:=bif(aP s).2 then((aP s).1.text,true)else([],false)
def fy (s:aa):Bool:=(cZ s).2&&decide ((cZ s).1=s)
theorem B5:Sound Kx 341 (Bs kA):=mh Ey fun b=>by
 show(mo b).val=_
 unfold mo kA
 simp only [Br.val]
 cases eX b<;>cases ww b<;>cases bb b<;>cases decide (b=45)<;>cases decide (b=46)<;>cases decide (b=95)<;>rfl
theorem Fh:Sound Kx 342 (Bs hoB):=mh H1 fun b=>by
 show(rf b).val=_
 unfold rf hoB
 simp only [Br.val]
 cases eX b<;>cases bb b<;>cases decide (b=45)<;>rfl
def OJ:List AV→List Ob→Br
 | [.int .u8 b],[]=>.ret (.int .i64 (co b)) []
 |_,_=>.fail
theorem Fi:Sound Kx 333 OJ:=hexOf_ok.of fun args objs r h=>by
 unfold OJ at h
 split at h
 case h_2=>cases h
 rename_i b
 cases h
 show(rb b).val=_
 unfold rb co
 cases h1:bb b
 ·by_cases g1:97≤b<;>by_cases g2:b≤102<;>by_cases g3:65≤b<;>by_cases g4:b≤70<;>simp only [Br.val,g1,g2,g3,g4,decide_true,decide_false,Bool.and_true,Bool.and_false,Bool.false_and,Bool.true_and,cond_true,cond_false]<;>
   simp (disch:=omega) only [w8,w64]
 ·simp only [bb,Bool.and_eq_true,decide_eq_true_eq]at h1
  simp only [Br.val]
  rw [w8 (by omega) (by omega),w64 (by omega) (by omega)];rfl
def OK:List AV→List Ob→Br
 | [.int .u8 b],[]=>.ite (decide (0≤b)&&decide (b<256)) (.ret (.bool (kA b)) []) .fail
 |_,_=>.fail
def MT:List AV→List Ob→Br
 | [.int .u8 b],[]=>.ret (.int .u8 (upI b)) []
 |_,_=>.fail
theorem B6:Sound Kx 329 MT:=supper_ok.of fun args objs r h=>by
 unfold MT at h
 split at h
 case h_2=>cases h
 rename_i b
 cases h
 show(mq b).val=_
 unfold mq upI eX
 by_cases g1:97≤b<;>by_cases g2:b≤122<;>simp only [Br.val,g1,g2,decide_true,decide_false,Bool.and_true,Bool.and_false,Bool.false_and,Bool.true_and,cond_true,cond_false]
 rw [w8 (by omega) (by omega)]
theorem Fj:Sound Kx 328 OK:=sfree_ok.of fun args objs r h=>by
 unfold OK at h
 split at h
 case h_2=>cases h
 rename_i b
 obtain⟨h1,h2⟩:=af h
 cases h2
 show(rc b).val=_
 unfold rc
 refine(aZ h1).trans ?_
 simp only [Bool.and_eq_true,decide_eq_true_eq]at h1
 have e:cB [45,46,95,126] b=(decide (b=45)||decide (b=46)||decide (b=95)||decide (b=126)):=by
  have q: ∀c:UInt8,decide (by8 c=b)=decide (b=by8 c):=fun c=>by rw [Bool.eq_iff_iff,decide_eq_true_eq,decide_eq_true_eq];exact⟨Eq.symm,Eq.symm⟩
  show(decide (by8 45=b)||(decide (by8 46=b)||(decide (by8 95=b)||(decide (by8 126=b)||false))))=_
  rw [q,q,q,q]
  simp only [Bool.or_false,Bool.or_assoc];rfl
 have e2:(decide (97≤dS b)&&decide (dS b≤122))=(eX b||ww b):=by
  unfold dS eX ww
  by_cases g1:65≤b<;>by_cases g2:b≤90<;>by_cases g3:97≤b<;>by_cases g4:b≤122<;>by_cases g5:97≤b+32<;>by_cases g6:b+32≤122<;>simp only [g1,g2,g3,g4,g5,g6,decide_true,decide_false,Bool.and_true,Bool.and_false,Bool.or_true,Bool.or_false,cond_true,cond_false]<;>omega
 unfold kA
 rw [←e2]
 rw [e]
 simp only [Br.val]
 cases decide (97≤dS b)<;>cases decide (dS b≤122)<;>cases bb b<;>cases decide (b=45)<;>cases decide (b=46)<;>cases decide (b=95)<;>rfl
def cE (n:Int):Bool:= !decide (co n<0)
def LH (r:aa) (v:Int):Int:=r.foldl (fun v c=>v*16+co (by8 c)) v
def d7 (s:aa):Int×Bool:=bif decide (1≤s.length)&&decide (s.length≤7)&&a7 cE s then(LH s 0,true)else(0,false)
theorem xl: ∀k:Fin 256,co (k.val:Int)=bif bb (dS k.val)then dS k.val-48 else bif decide (97≤dS k.val)&&decide (dS k.val≤102)then dS k.val-97+10 else-1:=by decide+kernel
theorem K8 (c:UInt8):co (by8 c)=bif bb (dS (by8 c))then dS (by8 c)-48 else bif decide (97≤dS (by8 c))&&decide (dS (by8 c)≤102)then dS (by8 c)-97+10 else-1:=xl ⟨c.toNat,c.toNat_lt⟩
theorem rD (s:aa) (hl:s.length≤7) (k0:Int→OR') (k1:Int→OR') (K0:OR') (h0: ∀x,k0 x=K0): ∀(r:aa) (v i:Int) (n:Nat),At s i r→r.length<n→0≤v→(v+1)*16^r.length≤268435456→
 ci n s v i k0 k1=bif a7 cE r then k1 (LH r v)else K0:=by
 intro r;induction r with
 |nil=>intro v i n h hn hv hb;obtain⟨n,rfl⟩:=bC hn;unfold ci eC;simp only [h.dge,cond_false];rfl
 |cons a r ih=>
  intro v i n h hn hv hb;obtain⟨n,rfl⟩:=bC hn
  simp only [List.length_cons]at hn hb
  have hp:(1:Int)≤16^r.length:=by have h0:(0:Int)<16^r.length:=Int.pow_pos (by decide);omega
  have hb':((v+1)*16)*16^r.length≤268435456:=by rw [Int.pow_succ,Int.mul_comm (16^r.length) 16,←Int.mul_assoc]at hb;exact hb
  have hv16:(v+1)*16≤268435456:=Int.le_trans (by have:=Int.mul_le_mul_of_nonneg_left hp (show 0≤(v+1)*16 by omega);rwa [Int.mul_one]at this) hb'
  have hall:a7 cE (a::r)=(cE (by8 a)&&a7 cE r):=rfl
  have hN:LH (a::r) v=LH r (v*16+co (by8 a)):=rfl
  have hx:=nh (by8 a)
  have hstep: ∀d,d=co (by8 a)→0≤d→ci n s (v*16+d) (i+1) k0 k1=bif a7 cE r then k1 (LH r (v*16+co (by8 a)))else K0:=by
   intro d hd h0'
   subst hd
   refine ih _ (i+1) n h.step (by omega) (by omega) (Int.le_trans (Int.mul_le_mul_of_nonneg_right (show v*16+co (by8 a)+1≤(v+1)*16 by omega) (by omega)) hb')
  have e0:decide (0≤by8 a)=true:=dT' (yr a)
  have e1:decide (by8 a<256)=true:=dT' (yu a)
  have e2:ac (v*16)=v*16:=w64 (by omega) (by omega)
  unfold ci eC
  simp only [h.dlt,h.dnn,h.str,cond_true,h.next (show s.length≤4611686018427387904 by omega),e0,e1,e2,Bool.and_self,h0,hall,hN]
  have hl:=K8 a
  cases c1:bb (dS (by8 a))
  ·rw [c1,cond_false]at hl
   cases c2:decide (97≤dS (by8 a))
   ·rw [c2,Bool.false_and,cond_false]at hl
    have:cE (by8 a)=false:=by unfold cE;rw [hl];rfl
    rw [this];rfl
   ·cases c3:decide (dS (by8 a)≤102)
    ·rw [c3,Bool.and_false,cond_false]at hl
     have:cE (by8 a)=false:=by unfold cE;rw [hl];rfl
     rw [this];rfl
    ·rw [c2,c3,Bool.and_self,cond_true]at hl
     have g2:=of_decide_eq_true c2
     have g3:=of_decide_eq_true c3
     have:cE (by8 a)=true:=by unfold cE;rw [dF' (by omega)];rfl
     simp only [cond_false,cond_true,this,Bool.true_and]
     have e:ac (ac (v*16+ac (wk8 (dS (by8 a)-97)))+10)=v*16+(dS (by8 a)-97+10):=by
      simp (disch:=omega) only [w8,w64];omega
     rw [e]
     exact hstep _ hl.symm (by omega)
  ·rw [c1,cond_true]at hl
   have c1':=c1
   simp only [bb,Bool.and_eq_true,decide_eq_true_eq]at c1'
   have:cE (by8 a)=true:=by unfold cE;rw [dF' (by omega)];rfl
   simp only [cond_false,cond_true,this,Bool.true_and]
   have e:ac (v*16+ac (wk8 (dS (by8 a)-48)))=v*16+(dS (by8 a)-48):=by
    simp (disch:=omega) only [w8,w64]
   rw [e]
   exact hstep _ hl.symm (by omega)
def OL:List AV→List Ob→Br
 | [.str s],[]=>.ret (.tup [.int .i64 (d7 s).1,.bool (d7 s).2]) []
 |_,_=>.fail
theorem uJ:Sound Kx 327 OL:=by
 refine(rg (φ:=fun s=>.ret (.tup [.int .i64 (d7 s).1,.bool (d7 s).2]) []) (fun s=>s.length+1) fun s r h=> ?_).of fun args objs r h=> ?_
 ·cases h
  unfold jB d7
  cases c1:decide ((s.length:Int)=0)
  ·have c1':=of_decide_eq_false c1
   cases c2:decide ((7:Int)< (s.length:Int))
   ·have c2':=of_decide_eq_false c2
    simp only [cond_false]
    rw [rD s (by omega) _ _ (some (AV.tup [AV.int .i64 0,AV.bool false],[])) (fun _=>rfl) s 0 0 _ (At.start s) (by omega) (by omega) ?_,dT' (show 1≤s.length by omega),dT' (show s.length≤7 by omega)]
    ·cases a7 cE s<;>rfl
    ·have h3:(16:Nat)^s.length≤16^7:=Nat.pow_le_pow_right (by decide) (by omega)
     have e:(16:Int)^s.length=((16^s.length:Nat):Int):=by rw [Int.natCast_pow];rfl
     rw [e]
     have e2:(16:Nat)^7=268435456:=by decide
     omega
   ·have c2':=of_decide_eq_true c2
    rw [dF' (show ¬s.length≤7 by omega),Bool.and_false,Bool.false_and];rfl
  ·have c1':=of_decide_eq_true c1
   rw [dF' (show ¬1≤s.length by omega),Bool.false_and,Bool.false_and];rfl
 ·unfold OL at h;split at h
  ·exact h
  ·cases h
theorem xm (s:aa) (hl:s.length≤1000000) (b:Int) (k:List aa→OR'): ∀(n:Nat) (p cur r:aa) (out:List aa) (i fr:Int),s=p++cur++r→i=((p.length+cur.length:Nat):Int)→fr=(p.length:Int)→r.length+1<n→out.length≤p.length→
 dv n s b fr i out k=k (out++ji b cur r):=by
 intro n;induction n with
 |zero=>intro p cur r out i fr hs hi hf hn;omega
 |succ n ih=>
  intro p cur r out i fr hs hi hf hn ho
  have hat:At s i r:=⟨p++cur,hs,by rw [hi];simp⟩
  have hlen:s.length=p.length+cur.length+r.length:=by rw [hs];simp;omega
  have hcut:cut s fr i=cur:=by rw [hs,hi,hf,Int.natCast_add];exact Es p cur r
  have hnf:decide (0≤fr)=true:=dT' (by omega)
  have hfi:decide (fr≤i)=true:=dT' (by omega)
  have hil:decide (i≤(s.length:Int))=true:=dT' (by omega)
  have hw:ac (i+1)=i+1:=w64 (by omega) (by omega)
  have hap:decide ((out.length+ [cur].length)*16≤140737488355328)=true:=dT' (by simp only [List.length_singleton];omega)
  unfold dv ip
  simp only [hcut,hnf,hfi,hil,hw,cy,hap,cond_true,hat.dnn]
  cases r with
  |nil=>
   have he:decide (i=(s.length:Int))=true:=dT' (by simp only [List.length_nil]at hlen;omega)
   simp only [List.length_nil]at hn
   obtain⟨m,rfl⟩: ∃m,n=m+1:=⟨n-1,by omega⟩
   have hx:decide (i+1≤(s.length:Int))=false:=dF' (by simp only [List.length_nil]at hlen;omega)
   have hend: ∀o,dv (m+1) s b (i+1) (i+1) o k=k o:=fun o=>by unfold dv ip;rw [hx,cond_false]
   simp only [he,cond_true,hend]
   rfl
  |cons c r=>
   have he:decide (i=(s.length:Int))=false:=dF' (by simp only [List.length_cons]at hlen;omega)
   simp only [List.length_cons]at hn hlen
   have hstep:=ih p (cur++[c]) r out (i+1) fr (by rw [hs];simp) (by rw [hi];simp;omega) hf (by omega) ho
   have hcom:=ih (p++cur++[c]) [] r (out++[cur]) (i+1) (i+1) (by rw [hs];simp) (by rw [hi];simp;omega) (by rw [hi];simp;omega) (by omega) (by simp;omega)
   simp only [he,hat.dlt,hat.str,cond_true,cond_false,hstep,hcom]
   rw [ne]
   cases decide (by8 c=b)<;>simp
def OM:List AV→List Ob→Br
 | [.str s,.int .u8 b],[]=>.ite (decide (s.length≤1000000)) (.ret (.ref 0 0) [.arr .str 0 false (eZ s b)]) .fail
 |_,_=>.fail
theorem pM:Sound Kx 264 OM:=by
 refine(wM (φ:=fun s b=>.ite (decide (s.length≤1000000)) (.ret (.ref 0 0) [.arr .str 0 false (eZ s b)]) .fail) (fun s _=>s.length+2) fun s b r h=> ?_).of fun args objs r h=> ?_
 ·obtain⟨h1,h2⟩:=af h
  cases h2
  rw [decide_eq_true_eq]at h1
  unfold oX
  rw [xm s h1 b _ _ [] [] s [] 0 0 rfl rfl rfl (by omega) (by simp)]
  rfl
 ·unfold OM at h;split at h
  ·exact h
  ·cases h
theorem MU {w:World} {L:Lk} (hR:RelO Kx w ⟨eU L,L.F⟩ L w) {b o:Nat} (h:Mut L b o):b<w.heap.size:=by
 rcases h with h|⟨i,p,hp,hr⟩
 ·exact hR.fs b o h
 ·exact dO (hR.ok i p hp) hr
def Fk:List AV→List Ob→Br
 | [.str s,.str [c]],[]=>.ite (decide (s.length≤1000000)) (.ret (.sh .str (eZ s (by8 c))) []) .fail
 |_,_=>.fail
theorem uK:Sound Kx 287 Fk:=by
 refine bJ Tryz.func287 (by kernel_rfl) rfl fun args objs res objs' hv w L vs hR hr=> ?_
 unfold Fk at hv
 split at hv
 case h_2=>cases hv
 rename_i s c
 obtain⟨h1,h2⟩:=af hv
 cases h2
 rw [decide_eq_true_eq]at h1
 refine⟨rfl, ?_⟩
 simp only [aA,rel]at hr
 obtain⟨v,vs',rfl,rfl,v2,vs2,rfl,rfl,rfl⟩:=hr
 obtain⟨m,hm⟩:=hR.g.2.1 0 (by kernel_rfl)
 have key:=Tryz.strings_Split ⟨s.toArray⟩ ⟨#[c]⟩ m w (by show s.toArray.size<_;simp;omega) hm (Nat.le_refl 1)
 have hl:((Lib.splitB ⟨#[c]⟩ 0 (Lib.countB ⟨s.toArray⟩ ⟨#[c]⟩) ⟨s.toArray⟩).map (·.data.toList))=eZ s (by8 c):=by
  rw [Lib.splitB_data]
  exact Fe c s
 have hlen:=congrArg List.length hl
 rw [List.length_map]at hlen
 have hcnt:Lib.countB ⟨s.toArray⟩ ⟨#[c]⟩+1=(eZ s (by8 c)).length:=by
  rw [←hlen];exact(Lib.splitB_all ⟨#[c]⟩ (Nat.le_refl 1) 0 _ ⟨s.toArray⟩ rfl).symm
 generalize hL:Lib.splitB ⟨#[c]⟩ 0 (Lib.countB ⟨s.toArray⟩ ⟨#[c]⟩) ⟨s.toArray⟩=l at key hl hlen
 rw [hcnt]at key
 refine key.mono ?_
 rintro e w' ⟨rfl,rfl⟩
 refine⟨_,rfl,(Below.refl _ _).alloc (Nat.le_refl _) _, ?_⟩
 simp only [rel,rd]
 refine⟨_,_,_,rfl,rfl,Nat.le_refl _,.inr ⟨w.heap.size,0,rfl,fun i hi=>⟨[.string ⟨(eZ s (by8 c))[i].toArray⟩],rfl,rfl,fun j hj=> ?_⟩⟩⟩
 obtain rfl:j=0:=by simp only [Ty.size,Ty.cts,List.length_singleton]at hj;omega
 refine⟨?_,fun hm=>absurd (MU hR hm) (Nat.lt_irrefl _)⟩
 have hi':i<l.length:=by omega
 have hget:(eZ s (by8 c))[i]=l[i].data.toList:=by
  have:(l.map (·.data.toList))[i]? =(eZ s (by8 c))[i]? :=by rw [hl]
  rw [List.getElem?_map,List.getElem?_eq_getElem hi',List.getElem?_eq_getElem hi]at this
  simpa using this.symm
 rw [hget]
 simp only [Ty.size,Ty.cts,List.length_singleton,Nat.mul_one,Nat.add_zero,Nat.zero_add]
 rw [World.cell?_alloc_new]
 simp [List.getElem?_eq_getElem hi']
end
end Go.Proofs.YtihabpimbfmhhaaGreatDoor.Ev
