/- The texts Ub, Uc, SplitS, one behind the other. -/
import Derived.Test.YtihabpimbfmhhaaGreatDoorK25
import Derived.Test.YtihabpimbfmhhaaGreatDoorK26
import Derived.Lib.Split
import Derived.Test.YtihabpimbfmhhaaGreatDoorK14
import Derived.Test.YtihabpimbfmhhaaGreatDoorK21
namespace Go.Proofs.YtihabpimbfmhhaaGreatDoor.Ev
open Go Go.RowKit
set_option linter.unusedVariables false
set_option linter.unusedSimpArgs false
noncomputable section
def ld (b:Int):aa→aa→List aa
 |cur,[]=>[cur]
 |cur,x::r=>bif decide (by8 x=b)then cur::ld b [] r else ld b (cur++[x]) r
theorem pp (b:Int) (cur:aa) (x:UInt8) (r:aa):ld b cur (x::r)=bif decide (by8 x=b)then cur::ld b [] r else ld b (cur++[x]) r:=by rw [ld]
def f7 (s:aa) (b:Int):List aa:=ld b [] s
theorem J3 {s p cur r:aa} {lo hi:Int} (h:s=p++(cur++r)) (hlo:lo=(p.length:Int)) (hhi:hi=lo+(cur.length:Int)):Ev.cut s lo hi=cur:=by
 subst h hlo hhi
 unfold Ev.cut
 rw [show((p.length:Int)+(cur.length:Int)).toNat=p.length+cur.length by omega,show((p.length:Int)).toNat=p.length by omega]
 rw [List.take_append]
 simp
theorem DW (b:Int): ∀(r cur:aa),(aF r b).length≠r.length→ld b cur r=(cur++aF r b)::f7 (r.drop ((aF r b).length+1)) b
 | [],cur,h=>absurd rfl h
 |x::r,cur,h=>by
  unfold aF at h⊢
  rw [List.takeWhile_cons]at h⊢
  unfold ld
  cases c:decide (by8 x=b)
  ·rw [c]at h
   simp only [Bool.not_false,if_true,List.length_cons]at h
   have ih:=DW b r (cur++[x]) (by unfold aF;omega)
   unfold aF at ih
   rw [cond_false,ih]
   simp
  ·simp [f7]
theorem yj (b:Int): ∀(r cur:aa),(aF r b).length=r.length→ld b cur r=[cur++r]
 | [],cur,h=>by simp [ld]
 |x::r,cur,h=>by
  unfold aF at h
  rw [List.takeWhile_cons]at h
  unfold ld
  cases c:decide (by8 x=b)
  ·rw [c]at h
   simp only [Bool.not_false,if_true,List.length_cons]at h
   rw [cond_false,yj b r (cur++[x]) (by unfold aF;omega)]
   simp
  ·rw [c]at h;simp at h
theorem fM (s:aa) (b:Int):(aF s b).length≤s.length:=(List.takeWhile_sublist _).length_le
theorem pq (s:aa) (b:Int):s.take (aF s b).length=aF s b:=by
 have h:aF s b<+:s:=List.takeWhile_prefix _
 exact(List.prefix_iff_eq_take.1 h).symm
theorem sw (c:UInt8) (s:aa):Lib.index s [c]=bif decide ((aF s (by8 c)).length=s.length)then-1 else((aF s (by8 c)).length:Int):=by
 have h:=ne c s
 unfold so Lib.cut at h
 have hg:=Lib.index_ge s [c]
 cases d:decide ((aF s (by8 c)).length=s.length)
 ·rw [d]at h
  by_cases h0:0≤Lib.index s [c]
  ·rw [if_pos h0]at h
   simp only [Prod.mk.injEq]at h
   have:=congrArg List.length h.1
   have hlt:(Lib.index s [c]).toNat≤s.length:=by
    have:=Lib.index_le s [c]
    omega
   rw [List.length_take]at this
   rw [cond_false];omega
  ·rw [if_neg h0]at h
   simp only [Prod.mk.injEq,Bool.not_false]at h
   exact absurd h.2.2 (by decide)
 ·rw [d]at h
  by_cases h0:0≤Lib.index s [c]
  ·rw [if_pos h0]at h
   simp only [Prod.mk.injEq,Bool.not_true]at h
   exact absurd h.2.2 (by decide)
  ·rw [cond_true];omega
theorem Gx (c:UInt8): ∀(bh:Nat) (s:aa),s.length<bh→Lib.splitK [c] 0 (Lib.countFrom [c] bh s) s=f7 s (by8 c):=by
 intro bh
 induction bh with
 |zero=>intro s h;omega
 |succ bh ih=>
  intro s h
  unfold Lib.countFrom
  rw [sw]
  cases d:decide ((aF s (by8 c)).length=s.length)
  ·have d':=of_decide_eq_false d
   rw [cond_false]
   have e:(((aF s (by8 c)).length:Int)== -1)=false:=by rw [beq_eq_false_iff_ne];omega
   have hle:=fM s (by8 c)
   rw [e]
   simp only [Bool.false_eq_true,if_false]
   rw [Nat.add_comm 1]
   unfold Lib.splitK
   rw [sw,d,cond_false,e]
   simp only [Bool.false_eq_true,if_false,Int.toNat_natCast,Nat.add_zero,List.length_singleton]
   rw [ih (s.drop _) (by rw [List.length_drop];omega),pq]
   unfold f7
   rw [DW _ s [] d']
   rfl
  ·rw [cond_true]
   simp only [BEq.rfl,if_true]
   unfold Lib.splitK f7
   rw [yj _ s [] (of_decide_eq_true d)]
   rfl
theorem J4 (c:UInt8) (s:aa):Lib.split s [c]=f7 s (by8 c):=Gx c _ s (Nat.lt_succ_self _)
theorem J5 (b:Int): ∀(r cur:aa),ld b cur r≠ []
 | [],cur=>by simp [ld]
 |x::r,cur=>by
  unfold ld
  cases decide (by8 x=b)
  ·exact J5 b r _
  ·simp
theorem uV (b:Int): ∀(r cur:aa),(ld b cur r).length≤r.length+1
 | [],cur=>by simp [ld]
 |x::r,cur=>by
  unfold ld
  cases decide (by8 x=b)
  ·have:=uV b r (cur++[x]);simp only [cond_false,List.length_cons];omega
  ·have:=uV b r [];simp only [cond_true,List.length_cons];omega
theorem pr (s:aa) (b:Int):(f7 s b).length≤s.length+1:=uV b s []
theorem uW (b:Int) (p:Int→Bool): ∀(r cur:aa),((ld b cur r).all fun s=>bb p s)=(bb p cur&&bb (fun n=>decide (n=b)||p n) r)
 | [],cur=>by simp [ld,bb]
 |x::r,cur=>by
  unfold ld
  cases c:decide (by8 x=b)
  ·rw [cond_false,uW b p r (cur++[x])]
   have e1:bb p (cur++[x])=(bb p cur&&p (by8 x)):=by simp [bb]
   have e2:bb (fun n=>decide (n=b)||p n) (x::r)=((decide (by8 x=b)||p (by8 x))&&bb (fun n=>decide (n=b)||p n) r):=rfl
   rw [e1,e2,c,Bool.false_or,Bool.and_assoc]
  ·rw [cond_true,List.all_cons,uW b p r []]
   have e2:bb (fun n=>decide (n=b)||p n) (x::r)=((decide (by8 x=b)||p (by8 x))&&bb (fun n=>decide (n=b)||p n) r):=rfl
   rw [e2,c]
   simp [bb]
def cG (n:Int):Int:=bif bg n then n-48 else bif decide (97≤n)&&decide (n≤102)then n-97+10 else bif decide (65≤n)&&decide (n≤70)then n-65+10 else-1
def mF (n:Int):Bool:=fY n||Ar n||bg n||decide (n=45)||decide (n=46)||decide (n=95)||decide (n=126)
def upI (n:Int):Int:=bif fY n then n-32 else n
def J6:aa:=[48,49,50,51,52,53,54,55,56,57,65,66,67,68,69,70]
theorem pt (n:Int):cG n<16:=by
 unfold cG bg
 cases h:decide (48≤n)&&decide (n≤57)
 ·rw [cond_false]
  cases h2:decide (97≤n)&&decide (n≤102)
  ·rw [cond_false]
   cases h3:decide (65≤n)&&decide (n≤70)
   ·rw [cond_false];omega
   ·simp only [Bool.and_eq_true,decide_eq_true_eq]at h3;rw [cond_true];omega
  ·simp only [Bool.and_eq_true,decide_eq_true_eq]at h2;rw [cond_true];omega
 ·simp only [Bool.and_eq_true,decide_eq_true_eq]at h;rw [cond_true];omega
def cz (a b:UInt8):Int:=16*cG (by8 a)+cG (by8 b)
def pu (c a b:UInt8):Bool:=decide (by8 c=37)&& !decide (cG (by8 a)<0)&& !decide (cG (by8 b)<0)
def sx (a b:UInt8):aa:=bif mF (cz a b)then [UInt8.ofNat (cz a b).toNat]else [37,UInt8.ofNat (upI (by8 a)).toNat,UInt8.ofNat (upI (by8 b)).toNat]
def cQ:aa→aa
 | []=>[]
 | [c]=>[c]
 | [c,d]=>[c,d]
 |c::a::b::r=>bif pu c a b then sx a b++cQ r else c::cQ (a::b::r)
theorem jX: ∀s:aa,(cQ s).length≤s.length
 | []=>Nat.le_refl _
 | [c]=>Nat.le_refl _
 | [c,d]=>Nat.le_refl _
 |c::a::b::r=>by
  unfold cQ
  cases pu c a b
  ·have:=jX (a::b::r);simp only [cond_false,List.length_cons]at this⊢;omega
  ·have:=jX r
   have h:(sx a b).length≤3:=by unfold sx;cases mF (cz a b)<;>simp
   simp only [cond_true,List.length_append,List.length_cons];omega
theorem sy (r:aa):cQ (47::r)=47::cQ r:=by
 cases r with
 |nil=>rfl
 |cons a r=>cases r with
  |nil=>rfl
  |cons b r=>
   have e:pu 47 a b=false:=by unfold pu;rw [show decide (by8 47=37)=false from rfl];rfl
   unfold cQ
   rw [e,cond_false]
   cases r<;>rfl
def Be (s:aa):Bool:=decide (s=[46])||decide (s=[46,46])
def dD (out:List aa) (s:aa):List aa:=bif decide (s=[46])then out else bif decide (s=[46,46])then out.dropLast else out++[s]
def i6 (l:List aa):List aa:=l.foldl dD []++(bif Be (l.getLastD [])then [[]]else [])
theorem px (out:List aa) (s:aa):(dD out s).length≤out.length+1:=by
 unfold dD
 cases decide (s=[46])
 ·cases decide (s=[46,46])
  ·simp
  ·simp;omega
 ·simp
def l8 (p:aa):Bool:=decide (p.length≤200)&&bb b8 p&& !cS p 35&& !cS p 63
def aS (p:aa):aa:=match p with
 |47::r=>bif l8 (47::r)then 47::dZ (i6 (f7 (cQ r) 47)) [47]else []
 |_=>[]
def hoB (n:Int):Bool:=fY n||bg n||decide (n=45)||decide (n=46)
def ii (h:aa):Bool:=decide (1≤h.length)&&decide (h.length≤60)&&bb hoB h&& !inP (f7 h 46) []
def uX:aa:=[104,116,116,112,58,47,47]
def QQ (po:Int):aa:=bif decide (po=80)then []else 58::bO po
def DX (q:aa) (hq:Bool):aa:=bif hq then 63::q else []
def qy (h:aa) (po:Int) (pa q:aa) (hq:Bool):aa:=uX++h++QQ po++pa++DX q hq
def aT (h:aa) (po:Int) (pa q:aa) (hq:Bool):Bool:=
 ii h&&(decide (1≤po)&&decide (po≤65535))&& !decide (pa=[])&&decide (aS pa=pa)&&bb b8 q&& !cS q 35&&(hq||decide (q=[]))&&decide ((qy h po pa q hq).length≤200)
structure Ur where
 h:aa
 po:Int
 pa:aa
 q:aa
 hq:Bool
def u0:Ur:=⟨[],0,[],[],false⟩
def l9 (r:aa):aa:=aF r 63
def qO (r:aa):aa:=aF (l9 r) 47
def Gy (a:aa):Int×Bool:=bif decide ((aF a 58).length<a.length)then f6 (a.drop ((aF a 58).length+1))else(80,true)
def QR (r:aa):aa:=bif decide ((qO r).length< (l9 r).length)then aS ((l9 r).drop (qO r).length)else [47]
def NH (r:aa):Ur:=⟨aJ (aF (qO r) 58),(Gy (qO r)).1,QR r,bif decide ((l9 r).length<r.length)then r.drop ((l9 r).length+1)else [],decide ((l9 r).length<r.length)⟩
def sz (s:aa):Bool:=decide (s.length≤200)&&decide (7≤s.length)&&bb b8 s&& !cS s 35&&decide (aJ (s.take 7)=uX)
def Ur.ok (u:Ur):Bool:=aT u.h u.po u.pa u.q u.hq
def aX (s:aa):Ur×Bool:=bif sz s&&(Gy (qO (s.drop 7))).2&&(NH (s.drop 7)).ok then(NH (s.drop 7),true)else(u0,false)
def Ur.text (u:Ur):aa:=qy u.h u.po u.pa u.q u.hq
def dx (s:aa):aa×Bool:=bif(aX s).2 then((aX s).1.text,true)else([],false)
def gr (s:aa):Bool:=(dx s).2&&decide ((dx s).1=s)
theorem Gz:Sound Kx 341 (FM mF):=og I0 fun b=>by
 show(ov b).val=_
 unfold ov mF
 simp only [Br.val]
 cases fY b<;>cases Ar b<;>cases bg b<;>cases decide (b=45)<;>cases decide (b=46)<;>cases decide (b=95)<;>rfl
theorem J7:Sound Kx 342 (FM hoB):=og Ng fun b=>by
 show(ut b).val=_
 unfold ut hoB
 simp only [Br.val]
 cases fY b<;>cases bg b<;>cases decide (b=45)<;>rfl
def UE:List AV→List Ob→Br
 | [.int .u8 b],[]=>.ret (.int .i64 (cG b)) []
 |_,_=>.fail
theorem J8:Sound Kx 333 UE:=hexOf_ok.of fun args objs r h=>by
 unfold UE at h
 split at h
 case h_2=>cases h
 rename_i b
 cases h
 show(uo b).val=_
 unfold uo cG
 cases h1:bg b
 ·by_cases g1:97≤b<;>by_cases g2:b≤102<;>by_cases g3:65≤b<;>by_cases g4:b≤70<;>simp only [Br.val,g1,g2,g3,g4,decide_true,decide_false,Bool.and_true,Bool.and_false,Bool.false_and,Bool.true_and,cond_true,cond_false]<;>
   simp (disch:=omega) only [w8,w64]
 ·simp only [bg,Bool.and_eq_true,decide_eq_true_eq]at h1
  simp only [Br.val]
  rw [w8 (by omega) (by omega),w64 (by omega) (by omega)];rfl
def UF:List AV→List Ob→Br
 | [.int .u8 b],[]=>.ite (decide (0≤b)&&decide (b<256)) (.ret (.bool (mF b)) []) .fail
 |_,_=>.fail
def SH:List AV→List Ob→Br
 | [.int .u8 b],[]=>.ret (.int .u8 (upI b)) []
 |_,_=>.fail
theorem GA:Sound Kx 329 SH:=supper_ok.of fun args objs r h=>by
 unfold SH at h
 split at h
 case h_2=>cases h
 rename_i b
 cases h
 show(ow b).val=_
 unfold ow upI fY
 by_cases g1:97≤b<;>by_cases g2:b≤122<;>simp only [Br.val,g1,g2,decide_true,decide_false,Bool.and_true,Bool.and_false,Bool.false_and,Bool.true_and,cond_true,cond_false]
 rw [w8 (by omega) (by omega)]
theorem J9:Sound Kx 328 UF:=sfree_ok.of fun args objs r h=>by
 unfold UF at h
 split at h
 case h_2=>cases h
 rename_i b
 obtain⟨h1,h2⟩:=af h
 cases h2
 show(uq b).val=_
 unfold uq
 refine(aR h1).trans ?_
 simp only [Bool.and_eq_true,decide_eq_true_eq]at h1
 have e:cS [45,46,95,126] b=(decide (b=45)||decide (b=46)||decide (b=95)||decide (b=126)):=by
  have q: ∀c:UInt8,decide (by8 c=b)=decide (b=by8 c):=fun c=>by rw [Bool.eq_iff_iff,decide_eq_true_eq,decide_eq_true_eq];exact⟨Eq.symm,Eq.symm⟩
  show(decide (by8 45=b)||(decide (by8 46=b)||(decide (by8 95=b)||(decide (by8 126=b)||false))))=_
  rw [q,q,q,q]
  simp only [Bool.or_false,Bool.or_assoc];rfl
 have e2:(decide (97≤eC b)&&decide (eC b≤122))=(fY b||Ar b):=by
  unfold eC fY Ar
  by_cases g1:65≤b<;>by_cases g2:b≤90<;>by_cases g3:97≤b<;>by_cases g4:b≤122<;>by_cases g5:97≤b+32<;>by_cases g6:b+32≤122<;>simp only [g1,g2,g3,g4,g5,g6,decide_true,decide_false,Bool.and_true,Bool.and_false,Bool.or_true,Bool.or_false,cond_true,cond_false]<;>omega
 unfold mF
 rw [←e2]
 rw [e]
 simp only [Br.val]
 cases decide (97≤eC b)<;>cases decide (eC b≤122)<;>cases bg b<;>cases decide (b=45)<;>cases decide (b=46)<;>cases decide (b=95)<;>rfl
def cV (n:Int):Bool:= !decide (cG n<0)
def Rj (r:aa) (v:Int):Int:=r.foldl (fun v c=>v*16+cG (by8 c)) v
def eO (s:aa):Int×Bool:=bif decide (1≤s.length)&&decide (s.length≤7)&&bb cV s then(Rj s 0,true)else(0,false)
theorem Bf: ∀k:Fin 256,cG (k.val:Int)=bif bg (eC k.val)then eC k.val-48 else bif decide (97≤eC k.val)&&decide (eC k.val≤102)then eC k.val-97+10 else-1:=by decide+kernel
theorem QS (c:UInt8):cG (by8 c)=bif bg (eC (by8 c))then eC (by8 c)-48 else bif decide (97≤eC (by8 c))&&decide (eC (by8 c)≤102)then eC (by8 c)-97+10 else-1:=Bf ⟨c.toNat,c.toNat_lt⟩
theorem uY (s:aa) (hl:s.length≤7) (k0:Int→OR') (k1:Int→OR') (K0:OR') (h0: ∀x,k0 x=K0): ∀(r:aa) (v i:Int) (n:Nat),At s i r→r.length<n→0≤v→(v+1)*16^r.length≤268435456→
 cB n s v i k0 k1=bif bb cV r then k1 (Rj r v)else K0:=by
 intro r;induction r with
 |nil=>intro v i n h hn hv hb;obtain⟨n,rfl⟩:=bh hn;unfold cB fD;simp only [h.dge,cond_false];rfl
 |cons a r ih=>
  intro v i n h hn hv hb;obtain⟨n,rfl⟩:=bh hn
  simp only [List.length_cons]at hn hb
  have hp:(1:Int)≤16^r.length:=by have h0:(0:Int)<16^r.length:=Int.pow_pos (by decide);omega
  have hb':((v+1)*16)*16^r.length≤268435456:=by rw [Int.pow_succ,Int.mul_comm (16^r.length) 16,←Int.mul_assoc]at hb;exact hb
  have hv16:(v+1)*16≤268435456:=Int.le_trans (by have:=Int.mul_le_mul_of_nonneg_left hp (show 0≤(v+1)*16 by omega);rwa [Int.mul_one]at this) hb'
  have hall:bb cV (a::r)=(cV (by8 a)&&bb cV r):=rfl
  have hN:Rj (a::r) v=Rj r (v*16+cG (by8 a)):=rfl
  have hx:=pt (by8 a)
  have hstep: ∀d,d=cG (by8 a)→0≤d→cB n s (v*16+d) (i+1) k0 k1=bif bb cV r then k1 (Rj r (v*16+cG (by8 a)))else K0:=by
   intro d hd h0'
   subst hd
   refine ih _ (i+1) n h.step (by omega) (by omega) (Int.le_trans (Int.mul_le_mul_of_nonneg_right (show v*16+cG (by8 a)+1≤(v+1)*16 by omega) (by omega)) hb')
  have e0:decide (0≤by8 a)=true:=dT' (Cw a)
  have e1:decide (by8 a<256)=true:=dT' (Cx a)
  have e2:ac (v*16)=v*16:=w64 (by omega) (by omega)
  unfold cB fD
  simp only [h.dlt,h.dnn,h.str,cond_true,h.next (show s.length≤4611686018427387904 by omega),e0,e1,e2,Bool.and_self,h0,hall,hN]
  have hl:=QS a
  cases c1:bg (eC (by8 a))
  ·rw [c1,cond_false]at hl
   cases c2:decide (97≤eC (by8 a))
   ·rw [c2,Bool.false_and,cond_false]at hl
    have:cV (by8 a)=false:=by unfold cV;rw [hl];rfl
    rw [this];rfl
   ·cases c3:decide (eC (by8 a)≤102)
    ·rw [c3,Bool.and_false,cond_false]at hl
     have:cV (by8 a)=false:=by unfold cV;rw [hl];rfl
     rw [this];rfl
    ·rw [c2,c3,Bool.and_self,cond_true]at hl
     have g2:=of_decide_eq_true c2
     have g3:=of_decide_eq_true c3
     have:cV (by8 a)=true:=by unfold cV;rw [dF' (by omega)];rfl
     simp only [cond_false,cond_true,this,Bool.true_and]
     have e:ac (ac (v*16+ac (wk8 (eC (by8 a)-97)))+10)=v*16+(eC (by8 a)-97+10):=by
      simp (disch:=omega) only [w8,w64];omega
     rw [e]
     exact hstep _ hl.symm (by omega)
  ·rw [c1,cond_true]at hl
   have c1':=c1
   simp only [bg,Bool.and_eq_true,decide_eq_true_eq]at c1'
   have:cV (by8 a)=true:=by unfold cV;rw [dF' (by omega)];rfl
   simp only [cond_false,cond_true,this,Bool.true_and]
   have e:ac (v*16+ac (wk8 (eC (by8 a)-48)))=v*16+(eC (by8 a)-48):=by
    simp (disch:=omega) only [w8,w64]
   rw [e]
   exact hstep _ hl.symm (by omega)
def UG:List AV→List Ob→Br
 | [.str s],[]=>.ret (.tup [.int .i64 (eO s).1,.bool (eO s).2]) []
 |_,_=>.fail
theorem yk:Sound Kx 327 UG:=by
 refine(uu (φ:=fun s=>.ret (.tup [.int .i64 (eO s).1,.bool (eO s).2]) []) (fun s=>s.length+1) fun s r h=> ?_).of fun args objs r h=> ?_
 ·cases h
  unfold lB eO
  cases c1:decide ((s.length:Int)=0)
  ·have c1':=of_decide_eq_false c1
   cases c2:decide ((7:Int)< (s.length:Int))
   ·have c2':=of_decide_eq_false c2
    simp only [cond_false]
    rw [uY s (by omega) _ _ (some (AV.tup [AV.int .i64 0,AV.bool false],[])) (fun _=>rfl) s 0 0 _ (At.start s) (by omega) (by omega) ?_,dT' (show 1≤s.length by omega),dT' (show s.length≤7 by omega)]
    ·cases bb cV s<;>rfl
    ·have h3:(16:Nat)^s.length≤16^7:=Nat.pow_le_pow_right (by decide) (by omega)
     have e:(16:Int)^s.length=((16^s.length:Nat):Int):=by rw [Int.natCast_pow];rfl
     rw [e]
     have e2:(16:Nat)^7=268435456:=by decide
     omega
   ·have c2':=of_decide_eq_true c2
    rw [dF' (show ¬s.length≤7 by omega),Bool.and_false,Bool.false_and];rfl
  ·have c1':=of_decide_eq_true c1
   rw [dF' (show ¬1≤s.length by omega),Bool.false_and,Bool.false_and];rfl
 ·unfold UG at h;split at h
  ·exact h
  ·cases h
theorem Bg (s:aa) (hl:s.length≤1000000) (b:Int) (k:List aa→OR'): ∀(n:Nat) (p cur r:aa) (out:List aa) (i fr:Int),s=p++cur++r→i=((p.length+cur.length:Nat):Int)→fr=(p.length:Int)→r.length+1<n→out.length≤p.length→
 dR n s b fr i out k=k (out++ld b cur r):=by
 intro n;induction n with
 |zero=>intro p cur r out i fr hs hi hf hn;omega
 |succ n ih=>
  intro p cur r out i fr hs hi hf hn ho
  have hat:At s i r:=⟨p++cur,hs,by rw [hi];simp⟩
  have hlen:s.length=p.length+cur.length+r.length:=by rw [hs];simp;omega
  have hcut:cut s fr i=cur:=by rw [hs,hi,hf,Int.natCast_add];exact ot p cur r
  have hnf:decide (0≤fr)=true:=dT' (by omega)
  have hfi:decide (fr≤i)=true:=dT' (by omega)
  have hil:decide (i≤(s.length:Int))=true:=dT' (by omega)
  have hw:ac (i+1)=i+1:=w64 (by omega) (by omega)
  have hap:decide ((out.length+ [cur].length)*16≤140737488355328)=true:=dT' (by simp only [List.length_singleton];omega)
  unfold dR jH
  simp only [hcut,hnf,hfi,hil,hw,be,hap,cond_true,hat.dnn]
  cases r with
  |nil=>
   have he:decide (i=(s.length:Int))=true:=dT' (by simp only [List.length_nil]at hlen;omega)
   simp only [List.length_nil]at hn
   obtain⟨m,rfl⟩: ∃m,n=m+1:=⟨n-1,by omega⟩
   have hx:decide (i+1≤(s.length:Int))=false:=dF' (by simp only [List.length_nil]at hlen;omega)
   have hend: ∀o,dR (m+1) s b (i+1) (i+1) o k=k o:=fun o=>by unfold dR jH;rw [hx,cond_false]
   simp only [he,cond_true,hend]
   rfl
  |cons c r=>
   have he:decide (i=(s.length:Int))=false:=dF' (by simp only [List.length_cons]at hlen;omega)
   simp only [List.length_cons]at hn hlen
   have hstep:=ih p (cur++[c]) r out (i+1) fr (by rw [hs];simp) (by rw [hi];simp;omega) hf (by omega) ho
   have hcom:=ih (p++cur++[c]) [] r (out++[cur]) (i+1) (i+1) (by rw [hs];simp) (by rw [hi];simp;omega) (by rw [hi];simp;omega) (by omega) (by simp;omega)
   simp only [he,hat.dlt,hat.str,cond_true,cond_false,hstep,hcom]
   rw [pp]
   cases decide (by8 c=b)<;>simp
def UH:List AV→List Ob→Br
 | [.str s,.int .u8 b],[]=>.ite (decide (s.length≤1000000)) (.ret (.ref 0 0) [.arr .str 0 false (f7 s b)]) .fail
 |_,_=>.fail
theorem sA:Sound Kx 264 UH:=by
 refine(AG (φ:=fun s b=>.ite (decide (s.length≤1000000)) (.ret (.ref 0 0) [.arr .str 0 false (f7 s b)]) .fail) (fun s _=>s.length+2) fun s b r h=> ?_).of fun args objs r h=> ?_
 ·obtain⟨h1,h2⟩:=af h
  cases h2
  rw [decide_eq_true_eq]at h1
  unfold ry
  rw [Bg s h1 b _ _ [] [] s [] 0 0 rfl rfl rfl (by omega) (by simp)]
  rfl
 ·unfold UH at h;split at h
  ·exact h
  ·cases h
theorem SI {w:World} {L:Lk} (hR:RelO Kx w ⟨eq L,L.F⟩ L w) {b o:Nat} (h:Mut L b o):b<w.heap.size:=by
 rcases h with h|⟨i,p,hp,hr⟩
 ·exact hR.fs b o h
 ·exact ew (hR.ok i p hp) hr
def J_:List AV→List Ob→Br
 | [.str s,.str [c]],[]=>.ite (decide (s.length≤1000000)) (.ret (.sh .str (f7 s (by8 c))) []) .fail
 |_,_=>.fail
theorem yl:Sound Kx 287 J_:=by
 refine bU Tryz.func287 (by kernel_rfl) rfl fun args objs res objs' hv w L vs hR hr=> ?_
 unfold J_ at hv
 split at hv
 case h_2=>cases hv
 rename_i s c
 obtain⟨h1,h2⟩:=af hv
 cases h2
 rw [decide_eq_true_eq]at h1
 refine⟨rfl, ?_⟩
 simp only [aK,rel]at hr
 obtain⟨v,vs',rfl,rfl,v2,vs2,rfl,rfl,rfl⟩:=hr
 obtain⟨m,hm⟩:=hR.g.2.1 0 (by kernel_rfl)
 have key:=Tryz.strings_Split ⟨s.toArray⟩ ⟨#[c]⟩ m w (by show s.toArray.size<_;simp;omega) hm (Nat.le_refl 1)
 have hl:((Lib.splitB ⟨#[c]⟩ 0 (Lib.countB ⟨s.toArray⟩ ⟨#[c]⟩) ⟨s.toArray⟩).map (·.data.toList))=f7 s (by8 c):=by
  rw [Lib.splitB_data]
  exact J4 c s
 have hlen:=congrArg List.length hl
 rw [List.length_map]at hlen
 have hcnt:Lib.countB ⟨s.toArray⟩ ⟨#[c]⟩+1=(f7 s (by8 c)).length:=by
  rw [←hlen];exact(Lib.splitB_all ⟨#[c]⟩ (Nat.le_refl 1) 0 _ ⟨s.toArray⟩ rfl).symm
 generalize hL:Lib.splitB ⟨#[c]⟩ 0 (Lib.countB ⟨s.toArray⟩ ⟨#[c]⟩) ⟨s.toArray⟩=l at key hl hlen
 rw [hcnt]at key
 refine key.mono ?_
 rintro e w' ⟨rfl,rfl⟩
 refine⟨_,rfl,(Below.refl _ _).alloc (Nat.le_refl _) _, ?_⟩
 simp only [rel,rd]
 refine⟨_,_,_,rfl,rfl,Nat.le_refl _,.inr ⟨w.heap.size,0,rfl,fun i hi=>⟨[.string ⟨(f7 s (by8 c))[i].toArray⟩],rfl,rfl,fun j hj=> ?_⟩⟩⟩
 obtain rfl:j=0:=by simp only [Ty.size,Ty.cts,List.length_singleton]at hj;omega
 refine⟨?_,fun hm=>absurd (SI hR hm) (Nat.lt_irrefl _)⟩
 have hi':i<l.length:=by omega
 have hget:(f7 s (by8 c))[i]=l[i].data.toList:=by
  have:(l.map (·.data.toList))[i]? =(f7 s (by8 c))[i]? :=by rw [hl]
  rw [List.getElem?_map,List.getElem?_eq_getElem hi',List.getElem?_eq_getElem hi]at this
  simpa using this.symm
 rw [hget]
 simp only [Ty.size,Ty.cts,List.length_singleton,Nat.mul_one,Nat.add_zero,Nat.zero_add]
 rw [World.cell?_alloc_new]
 simp [List.getElem?_eq_getElem hi']
end
end Go.Proofs.YtihabpimbfmhhaaGreatDoor.Ev
