/- Plain words for this seat (7). Plain words for this seat (8). Plain words for this seat (9). Plain words for this seat (11). Plain words for this seat (12). Plain words for this seat (13). Plain words for this seat (14). Plain words for this seat (15). Plain words for this seat (16). Plain words for this seat (17). Plain words for this seat (18). Plain words for this seat (19). Plain words for this seat (21). -/
import Derived.Test.YtlejgahbbfeagaaGreatDoorSeat6
set_option linter.unusedVariables false
set_option linter.unusedSimpArgs false
namespace Go.Proofs.YtlejgahbbfeagaaGreatDoor.N
open Go
theorem rr1 (r:bp):cK fuel 1 r=some (IZ 1 r):=BU r 1 (by omega) (by omega)
theorem rr4 (r:bp):cK fuel 4 r=some (IZ 4 r):=BU r 4 (by omega) (by omega)
theorem mV {k:Nat} {b r:List UInt8} {v:Int} (h:num k b=some (v,r)):IZ k ⟨b,false⟩=(v,⟨r,false⟩):=by unfold IZ;simp[h]
theorem mW {k:Nat} {b:List UInt8} (h:num k b=none):IZ k ⟨b,false⟩=(0,⟨b,true⟩):=by unfold IZ;simp[h]
theorem kq {k:Nat} {b:List UInt8}:IZ k ⟨b,true⟩=(0,⟨b,true⟩):=rfl
theorem Fq {b r s:List UInt8} (h:text b=some (s,r)):Ft ⟨b,false⟩=(s,⟨r,false⟩):=by unfold Ft;simp[h]
theorem Fs {b:List UInt8} (h:text b=none):Ft ⟨b,false⟩=([],⟨b,true⟩):=by unfold Ft;simp[h]
theorem uy {b:List UInt8}:Ft ⟨b,true⟩=([],⟨b,true⟩):=rfl
def YV (o:Option (List aX×List UInt8)) (a:bf) (s:bf×bp×bf):Prop:=
 match o with
 |some (l,r)=>s.2=(⟨r,false⟩,⟨a.Kind,a.bg,a.aP,a.Seq,a.Name,a.aV,a.Mode,l⟩)
 |none=>s.2.1.wM=true
theorem BQ (b0:List UInt8) (m:Nat) (B:List UInt8) (o a:bf) (n:Nat): ∃s,iter (fR fuel b0) (n+1) ((m:Int),o,⟨B,true⟩,a)=some s∧s.2.1.wM=true:=by
 rw[bw]
 simp only[fR,jT,get_ite,aE,aD,aC,aF,aL,aK]
 cases decide ((m:Int)>0)<;>exact⟨_,rfl,rfl⟩
theorem Kx (b0:List UInt8): ∀(m:Nat) (b:List UInt8) (o a:bf) (n:Nat),m<n→m≤255→a.aN.length+m≤1000→b.length≤dy→ ∃s,iter (fR fuel b0) n ((m:Int),o,⟨b,false⟩,a)=some s∧YV (gR m b a.aN) a s
 |_,_,_,_,0,h,_,_,_=>absurd h (Nat.not_lt_zero _)
 |0,b,o,a,n+1,_,_,_,_=>by
  rw[bw]
  exact⟨_,rfl,rfl⟩
 |m+1,b,o,a,n+1,h,h2,h3,h4=>by
  have e:((m+1:Nat):Int)-1=(m:Int):=by omega
  rw[bw]
  simp only[fR,jT,get_ite,aE,aD,aC,aF,aL,aK]
  rw[decide_eq_true (show((m+1:Nat):Int)>0 by omega),rr1,bq (by omega) (by omega),e,decide_eq_true (show a.aN.length+1≤dy by rw[cw];omega)]
  simp only[cond_true,aw,gR,Bool.not_false]
  obtain⟨n',rfl⟩: ∃n',n=n'+1:=⟨n-1,by omega⟩
  cases hn:num 1 b with
  |none=>
   rw[mW hn]
   simp only[]
   rw[ib _ (by exact h4),uy]
   exact BQ _ _ _ _ _ _
  |some p=>
   obtain⟨v,r⟩:=p
   have hp:=cO hn
   rw[mV hn]
   simp only[aw]
   rw[ib _ (by show r.length≤dy;omega)]
   cases ht:text r with
   |none=>
    rw[Fs ht]
    exact BQ _ _ _ _ _ _
   |some q=>
    obtain⟨s,t⟩:=q
    have hq:=Br ht
    rw[Fq ht]
    exact Kx b0 m t _ ⟨a.Kind,a.bg,a.aP,a.Seq,a.Name,a.aV,a.Mode,a.aN++[⟨v,s⟩]⟩ (n'+1) (by omega) (by omega) (by simp;omega) (by omega)
theorem HR {a:bf} (h:cH a=false):cP a=[]:=by unfold cP;rw[h];rfl
theorem CY (b:List UInt8) (hb:b.length≤dy):tw fuel b=some (iW b):=by
 have bad: ∀(B:List UInt8) (a:bf),kQ fuel b 0 (bf.mk 0 0 0 0 [] 0 0 []) ⟨B,true⟩ a=some (bf.mk 0 0 0 0 [] 0 0 [],⟨B,true⟩,a):=by
  intro B a
  unfold kQ
  obtain⟨n,hn⟩: ∃n,fuel=n+1:=⟨4294967295,by rw[pn]⟩
  generalize hs:fR fuel b=st
  rw[hn,bw,←hs]
  rfl
 unfold tw qd iW FF
 try simp only[get_ite,aE,aD,aC,aF,aL,aK]
 simp only[rr1,rr4,aw]
 cases h1:num 1 b with
 |none=>
  rw[mW h1]
  simp only[kq,aw]
  rw[ib _ (by exact hb),uy]
  simp only[kq,aw]
  rw[bad];rfl
 |some p1=>
  obtain⟨k,b1⟩:=p1
  have g1:=cO h1
  rw[mV h1]
  simp only[aw]
  cases h2:num 1 b1 with
  |none=>
   rw[mW h2]
   simp only[kq,aw]
   rw[ib _ (by show b1.length≤dy;omega),uy]
   simp only[kq,aw]
   rw[bad];rfl
  |some p2=>
   obtain⟨f,b2⟩:=p2
   have g2:=cO h2
   rw[mV h2]
   simp only[aw]
   cases h3:num 4 b2 with
   |none=>
    rw[mW h3]
    simp only[kq,aw]
    rw[ib _ (by show b2.length≤dy;omega),uy]
    simp only[kq,aw]
    rw[bad];rfl
   |some p3=>
    obtain⟨e,b3⟩:=p3
    have g3:=cO h3
    rw[mV h3]
    simp only[aw]
    cases h4:num 4 b3 with
    |none=>
     rw[mW h4]
     simp only[kq,aw]
     rw[ib _ (by show b3.length≤dy;omega),uy]
     simp only[kq,aw]
     rw[bad];rfl
    |some p4=>
     obtain⟨s,b4⟩:=p4
     have g4:=cO h4
     rw[mV h4]
     simp only[aw]
     rw[ib _ (by show b4.length≤dy;omega)]
     simp only[aw]
     cases h5:text b4 with
     |none=>
      rw[Fs h5]
      simp only[kq,aw]
      rw[bad];rfl
     |some p5=>
      obtain⟨nm,b5⟩:=p5
      have g5:=Br h5
      rw[Fq h5]
      simp only[aw]
      cases h6:num 1 b5 with
      |none=>
       rw[mW h6]
       simp only[kq,aw]
       rw[bad];rfl
      |some p6=>
       obtain⟨fl,b6⟩:=p6
       have g6:=cO h6
       rw[mV h6]
       simp only[aw]
       cases h7:num 1 b6 with
       |none=>
        rw[mW h7]
        simp only[kq,aw]
        rw[bad];rfl
       |some p7=>
        obtain⟨m,b7⟩:=p7
        have g7:=cO h7
        rw[mV h7]
        simp only[aw]
        cases h8:num 1 b7 with
        |none=>
         rw[mW h8]
         rw[bad];rfl
        |some p8=>
         obtain⟨n,b8⟩:=p8
         obtain⟨g8,g9,g10,_,_⟩:=cO h8
         rw[mV h8]
         simp only[aw]
         have g10:n<256:=g10
         obtain⟨o,h9,h10⟩:=Kx b n.toNat b8 Ra ⟨k,f,e,s,nm,fl,m,[]⟩ fuel (cr (by omega)) (by omega) (by simp;omega) (by omega)
         have en:((n.toNat:Nat):Int)=n:=by omega
         rw[en]at h9
         have h9':kQ fuel b n (bf.mk 0 0 0 0 [] 0 0 []) ⟨b8,false⟩ ⟨k,f,e,s,nm,fl,m,[]⟩=some o:=h9
         rw[h9']
         have h10:YV (gR n.toNat b8 []) ⟨k,f,e,s,nm,fl,m,[]⟩ o:=h10
         cases hw:gR n.toNat b8 []with
         |none=>
          rw[hw]at h10
          have h10:o.2.1.wM=true:=h10
          simp only[aw,h10,cond_true]
          rfl
         |some p9=>
          rw[hw]at h10
          have hl:=xN _ _ _ _ _ hw
          have h10:o.2=(⟨p9.2,false⟩,⟨k,f,e,s,nm,fl,m,p9.1⟩):=h10
          have h5':=rh h5
          simp only[aw,h10,cond_false]
          rw[wQ _ (by show nm.length<_;omega) (by show p9.1.length<_;rw[hl.1];simp;omega),wO _ (by show nm.length<_;omega) (by show p9.1.length<_;rw[hl.1];simp;omega)]
          simp only[aw]
          cases hm:cH ⟨k,f,e,s,nm,fl,m,p9.1⟩with
          |true=>
           simp only[Bool.not_true,cond_false]
           cases cP ⟨k,f,e,s,nm,fl,m,p9.1⟩==b<;>rfl
          |false=>
           have hne:(cP ⟨k,f,e,s,nm,fl,m,p9.1⟩==b)=false:=by
            rw[HR hm]
            cases b with
            |nil=>cases h1
            |cons x t=>rfl
           rw[hne]
           rfl
open Go
theorem uE {v:Int} (h:0≤v) (k:Nat) (hk:k≤3):i8 (sr v k)=v/256^k%256:=by
 have key: ∀s:Int,sr v k=b8 (qE s)→i8 (sr v k)=s%256:=by
  intro s hs
  rw[hs]
  have e:qE s=s%256:=by unfold qE;rw[IntKind.wrap_u8]
  rw[e,Rw (by omega) (by omega)]
 have h3:k=0∨k=1∨k=2∨k=3:=by omega
 rcases h3 with rfl|rfl|rfl|rfl
 ·refine key (v/256^0) (congrArg (fun s=>b8 (qE s)) ?_)
  rw[bq (by omega) (by omega)]
  show v.fdiv 1=v/1
  rw[Int.fdiv_eq_ediv_of_nonneg _ (by omega)]
 ·refine key (v/256^1) (congrArg (fun s=>b8 (qE s)) ?_)
  rw[bq (by omega) (by omega)]
  show v.fdiv 256=v/256
  rw[Int.fdiv_eq_ediv_of_nonneg _ (by omega)]
 ·refine key (v/256^2) (congrArg (fun s=>b8 (qE s)) ?_)
  rw[bq (by omega) (by omega)]
  show v.fdiv 65536=v/65536
  rw[Int.fdiv_eq_ediv_of_nonneg _ (by omega)]
 ·refine key (v/256^3) (congrArg (fun s=>b8 (qE s)) ?_)
  rw[bq (by omega) (by omega)]
  show v.fdiv 16777216=v/16777216
  rw[Int.fdiv_eq_ediv_of_nonneg _ (by omega)]
theorem Sv {v:Int} (h:0≤v) (h2:v<256):val (be 1 v)=v:=by
 have e0:=uE h 0 (by omega)
 show 0*256+i8 (sr v 0)=v
 rw[e0]
 have:(256:Int)^0=1:=rfl
 rw[this]
 omega
theorem Su {v:Int} (h:0≤v) (h2:v<4294967296):val (be 4 v)=v:=by
 have e0:=uE h 0 (by omega)
 have e1:=uE h 1 (by omega)
 have e2:=uE h 2 (by omega)
 have e3:=uE h 3 (by omega)
 show(((0*256+i8 (sr v 3))*256+i8 (sr v 2))*256+i8 (sr v 1))*256+i8 (sr v 0)=v
 rw[e0,e1,e2,e3]
 have h0:(256:Int)^0=1:=rfl
 have h1:(256:Int)^1=256:=rfl
 have h2:(256:Int)^2=65536:=rfl
 have h3:(256:Int)^3=16777216:=rfl
 rw[h0,h1,h2,h3]
 omega
theorem Q8 {k:Nat} {v:Int} (h:val (be k v)=v) (s:List UInt8):num k (be k v++s)=some (v,s):=by
 unfold num
 have e:(be k v).length=k:=dO k v
 rw[if_neg (by rw[List.length_append];omega)]
 have h1:(be k v++s).take k=be k v:=by rw[List.take_append_of_le_length (by omega),List.take_of_length_le (by omega)]
 have h2:(be k v++s).drop k=s:=by rw[List.drop_append_of_le_length (by omega),List.drop_of_length_le (by omega)];rfl
 rw[h1,h2,h]
theorem Ps {v:Int} (h:0≤v) (h2:v<256) (s:List UInt8):num 1 (be 1 v++s)=some (v,s):=Q8 (Sv h h2) s
theorem Zx {v:Int} (h:0≤v) (h2:v<4294967296) (s:List UInt8):num 4 (be 4 v++s)=some (v,s):=Q8 (Su h h2) s
theorem Kj (t s:List UInt8) (h:t.length≤255):text (Qy t++s)=some (t,s):=by
 show text (b8 (t.length:Int) ::(t++s))=_
 have e:(b8 (t.length:Int)).toNat=t.length:=by
  have:=Rw (n:=(t.length:Int)) (by omega) (by omega)
  unfold i8 at this
  omega
 rw[y1,e,if_neg (by rw[List.length_append];omega),List.take_append_of_le_length (by omega),List.take_of_length_le (by omega),List.drop_append_of_le_length (by omega),List.drop_of_length_le (by omega)]
 rfl
theorem DV: ∀(l acc:List aX) (s:List UInt8),(∀w∈l,bU w=true)→gR l.length (Ht l++s) acc=some (acc++l,s)
 |[],acc,s,_=>by simp[gR,Ht]
 |w::r,acc,s,h=>by
  have hw:=ji.1 (h w (by simp))
  have e:Ht (w::r)++s=be 1 w.og++(Qy w.B++(Ht r++s)):=by
   simp only[Ht,List.map_cons,List.flatten_cons,V4,List.append_assoc]
  simp only[List.length_cons,gR]
  rw[e,Ps hw.1 (by omega),aw,Kj _ _ (by omega),aw,DV r _ s (fun x hx=>h x (by simp[hx]))]
  simp
theorem Pk {a:bf} (h:cH a=true) (s:List UInt8):FF (mj a++s)=some (a,s):=by
 obtain⟨h1,h2,h3,h4,h5,h6,h7,h8,h9⟩:=fb h
 have e:mj a++s=be 1 a.Kind++(be 1 a.bg++(be 4 a.aP++(be 4 a.Seq++(Qy a.Name++(be 1 a.aV++(be 1 a.Mode++(be 1 (a.aN.length:Int)++(Ht a.aN++s)))))))):=by
  simp only[mj,ze,List.append_assoc]
 unfold FF
 rw[e,Ps (by omega) (by omega),aw,Ps (by omega) (by omega),aw,Zx (by omega) (by omega),aw,Zx (by omega) (by omega),aw,Kj _ _ (by omega),aw,Ps (by omega) (by omega),aw,Ps (by omega) (by omega),aw,Ps (by omega) (by omega),aw]
 rw[Int.toNat_natCast,DV _ _ _ h9]
 rfl
theorem Fz {a:bf} (h:cH a=true):cP a=mj a++be 2 (NH (mj a):Int):=by unfold cP;rw[h];rfl
theorem xe {a:bf} (h:cH a=true):iW (cP a)=(a,true):=by
 unfold iW
 rw[Fz h,Pk h]
 simp only[]
 rw[Fz h,beq_self_eq_true]
 rfl
theorem IN {z:List UInt8} (h:(iW z).2=true): ∃x r,FF z=some (x,r)∧z=cP x∧cH x=true:=by
 unfold iW at h
 cases hp:FF z with
 |none=>rw[hp]at h;cases h
 |some p=>
  obtain⟨x,r⟩:=p
  simp only[hp]at h
  cases he:cP x==z with
  |false=>rw[he]at h;cases h
  |true=>
   have e:=(eq_of_beq he).symm
   refine⟨x,r,rfl,e,?_⟩
   cases hm:cH x with
   |true=>rfl
   |false=>exact absurd (e.trans (HR hm)) (FE hp).2.2
open Go
def QX (p:bu):Prop:=0≤p.n∧p.n≤1000∧p.l.length≤1000
theorem SX (l:List UInt8) (h:l.length≤1000):QX (C7 l):=⟨Int.le_refl _,by show(0:Int)≤1000;omega,h⟩
theorem o8 (p:bu) (hp:QX p) (m:Int) (h1:1≤m): ∃r,cn m p=some r∧0≤r.1∧r.1<m∧QX r.2:=by
 obtain⟨l,n⟩:=p
 obtain⟨g1,g2,g3⟩:=hp
 simp only at g1 g2 g3
 unfold cn oQ
 try simp only[get_ite,aE,aD,aC,aF,aL,aK]
 try simp only
 by_cases hn:n≥(l.length:Int)
 ·rw[decide_eq_true hn]
  exact⟨_,rfl,Int.le_refl _,by show(0:Int)<m;omega,g1,g2,g3⟩
 ·rw[decide_eq_false hn,decide_eq_false (show ¬m<1 by omega),bq (show-9223372036854775808≤n+1 by omega) (by omega)]
  have e:n+1-1=n:=by omega
  rw[e,bq (by omega) (by omega),ig g1 (by omega)]
  have hlt:n.toNat<l.length:=by omega
  have hm:(m==0)=false:=by simp;omega
  rw[List.getElem?_eq_getElem hlt,hm]
  simp only[cond_false,cond_true,aw]
  have hx0:=D7 l[n.toNat]
  have hx1:=D8 l[n.toNat]
  rw[bq (by omega) (by omega),Int.tmod_eq_emod_of_nonneg hx0]
  exact⟨_,rfl,Int.emod_nonneg _ (by omega),Int.emod_lt_of_pos _ (by omega),by show 0≤n+1;omega,by show n+1≤1000;omega,g3⟩
theorem Mi (p:bu) (hp:QX p): ∃r,kX p=some r∧bU r.1=true∧QX r.2:=by
 obtain⟨r1,e1,h1,h2,h3⟩:=o8 p hp 10 (by omega)
 obtain⟨r2,e2,h4,h5,h6⟩:=o8 r1.2 h3 6 (by omega)
 unfold kX mE
 try simp only[get_ite,aE,aD,aC,aF,aL,aK]
 rw[e1,aw,e2,aw,ig h4 (by omega)]
 have hk:r2.1=0∨r2.1=1∨r2.1=2∨r2.1=3∨r2.1=4∨r2.1=5:=by omega
 rcases hk with hk|hk|hk|hk|hk|hk<;>rw[hk]<;>exact⟨_,rfl,ji.2 (by simp;omega),h6⟩
theorem Em: ∀(i:Nat) (p:bu) (l:List aX) (n:Nat),i<n→i≤5→l.length+i≤100→QX p→(∀w∈l,bU w=true)→
  ∃r,iter ky n ((i:Int),p,l)=some r∧QX r.1∧r.2.length=l.length+i∧ ∀w∈r.2,bU w=true
 |_,_,_,0,h,_,_,_,_=>absurd h (Nat.not_lt_zero _)
 |0,p,l,n+1,_,_,_,hp,hl=>by
  rw[bw]
  exact⟨_,rfl,hp,rfl,hl⟩
 |i+1,p,l,n+1,h,h5,hll,hp,hl=>by
  obtain⟨r,e,h1,h2⟩:=Mi p hp
  rw[bw]
  simp only[ky,jC,get_ite,aE,aD,aC,aF,aL,aK]
  have e2:((i+1:Nat):Int)-1=(i:Int):=by omega
  rw[decide_eq_true (show((i+1:Nat):Int)>0 by omega),e,bq (by omega) (by omega),e2]
  simp only[cond_true,aw]
  rw[decide_eq_true (show l.length+1≤dy by rw[cw];omega)]
  obtain⟨s,g1,g2,g3,g4⟩:=Em i r.2 (l++[r.1]) n (by omega) (by omega) (by simp;omega) h2 (fun w hw=>by
   rcases List.mem_append.1 hw with hw|hw
   ·exact hl w hw
   ·simp at hw;subst hw;exact h1)
  exact⟨s,g1,g2,by rw[g3];simp;omega,g4⟩
theorem Iz (m:Nat) (hm:m≤5) (p:bu) (hp:QX p): ∃r,dW fuel (m:Int) p=some r∧QX r.1∧r.2.length≤m∧ ∀w∈r.2,bU w=true:=by
 obtain⟨r1,e1,h1,h2,h3⟩:=o8 p hp ((m:Int)+1) (by omega)
 unfold dW lG
 try simp only[get_ite,aE,aD,aC,aF,aL,aK]
 rw[bq (by omega) (by omega),e1,aw]
 obtain⟨r,g1,g2,g3,g4⟩:=Em r1.1.toNat r1.2 [] fuel (cr (by omega)) (by omega) (by simp;omega) h3 (fun w hw=>by cases hw)
 have e:((r1.1.toNat:Nat):Int)=r1.1:=by omega
 rw[e]at g1
 have g1':pE fuel r1.1 r1.2 []=some r:=g1
 rw[g1',aw]
 exact⟨_,rfl,g2,by rw[g3];simp;omega,g4⟩
theorem KY (p:bu) (hp:QX p): ∃r,rT fuel p=some r∧cH r.1=true∧QX r.2:=by
 obtain⟨r1,e1,a1,b1,c1⟩:=o8 p hp 5 (by omega)
 obtain⟨r2,e2,a2,b2,c2⟩:=o8 r1.2 c1 3 (by omega)
 obtain⟨r3,e3,a3,b3,c3⟩:=o8 r2.2 c2 3 (by omega)
 obtain⟨r4,e4,a4,b4,c4⟩:=o8 r3.2 c3 20 (by omega)
 unfold rT oR
 try simp only[get_ite,aE,aD,aC,aF,aL,aK]
 rw[e1,aw,e2,aw,e3,aw,e4,aw,bq (show-9223372036854775808≤1+r1.1 by omega) (by omega),bq (show-9223372036854775808≤1+r2.1 by omega) (by omega),bq (show-9223372036854775808≤1+r4.1 by omega) (by omega)]
 have hf:pc 1 3 (1+r2.1)=true:=cJ.2 ⟨by omega,by omega⟩
 have he:pc 0 1073741824 r3.1=true:=cJ.2 ⟨by omega,by omega⟩
 have hs:pc 1 1073741824 (1+r4.1)=true:=cJ.2 ⟨by omega,by omega⟩
 have hk:r1.1=0∨r1.1=1∨r1.1=2∨r1.1=3∨r1.1=4:=by omega
 rcases hk with hk|hk|hk|hk|hk
 ·rw[hk]
  obtain⟨r5,e5,a5,b5,c5⟩:=o8 r4.2 c4 4 (by omega)
  show ∃r,((cn 4 r4.2).bind _)=some r∧_
  rw[e5,aw,ig a5 (by omega)]
  have hn:r5.1=0∨r5.1=1∨r5.1=2∨r5.1=3:=by omega
  rcases hn with hn|hn|hn|hn<;>rw[hn]<;>refine⟨_,rfl,?_,c5⟩<;>unfold cH<;>simp only[hf,he,hs,Bool.true_and]<;>refine Bool.and_eq_true_iff.2 ⟨rfl,Bool.and_eq_true_iff.2 ⟨rfl,eN _⟩⟩
 ·rw[hk]
  obtain⟨r5,e5,a5,b5,c5⟩:=o8 r4.2 c4 2 (by omega)
  obtain⟨r6,e6,a6,b6,c6⟩:=o8 r5.2 c5 6 (by omega)
  show ∃r,((cn 2 r4.2).bind _)=some r∧_
  rw[e5,aw,e6,aw,bq (show-9223372036854775808≤1+r5.1 by omega) (by omega),bq (show-9223372036854775808≤1+r6.1 by omega) (by omega)]
  refine⟨_,rfl,?_,c6⟩
  have g1:pc 1 6 (1+r6.1)=true:=cJ.2 ⟨by omega,by omega⟩
  have g2:pc 1 2 (1+r5.1)=true:=cJ.2 ⟨by omega,by omega⟩
  unfold cH
  simp only[hf,he,hs,Bool.true_and]
  show(pc 1 5 2&&((pc 1 6 (1+r6.1)&&pc 1 2 (1+r5.1))&&eP ⟨2,1+r2.1,r3.1,1+r4.1,[],1+r6.1,1+r5.1,[]⟩ ⟨2,1+r2.1,r3.1,1+r4.1,[],1+r6.1,1+r5.1,[]⟩))=true
  rw[g1,g2,eN]
  rfl
 ·rw[hk]
  obtain⟨r5,e5,a5,b5,c5⟩:=Iz 4 (by omega) r4.2 c4
  obtain⟨r6,e6,a6,b6⟩:=Mi r5.1 a5
  obtain⟨r7,e7,a7,b7,c7⟩:=o8 r6.2 b6 6 (by omega)
  show ∃r,((dW fuel 4 r4.2).bind _)=some r∧_
  have e5':dW fuel 4 r4.2=some r5:=e5
  rw[e5',aw,e6,aw,decide_eq_true (show r5.2.length+1≤dy by rw[cw];omega),e7]
  simp only[cond_true,aw]
  rw[bq (show-9223372036854775808≤1+r7.1 by omega) (by omega)]
  refine⟨_,rfl,?_,c7⟩
  have g1:pc 1 6 (1+r7.1)=true:=cJ.2 ⟨by omega,by omega⟩
  have g2:(r5.2++[r6.1]).all bU=true:=by
   rw[List.all_eq_true]
   intro w hw
   rcases List.mem_append.1 hw with hw|hw
   ·exact c5 w hw
   ·simp at hw;subst hw;exact a6
  have g3:decide (((r5.2++[r6.1]).length:Int)≤5)=true:=decide_eq_true (by simp;omega)
  have g4:decide (((r5.2++[r6.1]).length:Int)>0)=true:=decide_eq_true (by rw[List.length_append];simp only[List.length_cons,List.length_nil];omega)
  unfold cH
  simp only[hf,he,hs,Bool.true_and]
  show(pc 1 5 3&&((decide (((r5.2++[r6.1]).length:Int)≤5)&&((decide (((r5.2++[r6.1]).length:Int)>0)||false)&&(pc 1 6 (1+r7.1)&&(r5.2++[r6.1]).all bU)))&&eP ⟨3,1+r2.1,r3.1,1+r4.1,[],1+r7.1,0,r5.2++[r6.1]⟩ ⟨3,1+r2.1,r3.1,1+r4.1,[],1+r7.1,0,r5.2++[r6.1]⟩))=true
  rw[g1,g2,g3,g4,eN]
  rfl
 ·rw[hk]
  obtain⟨r5,e5,a5,b5,c5⟩:=Iz 5 (by omega) r4.2 c4
  obtain⟨r7,e7,a7,b7,c7⟩:=o8 r5.1 a5 6 (by omega)
  show ∃r,((dW fuel 5 r4.2).bind _)=some r∧_
  have e5':dW fuel 5 r4.2=some r5:=e5
  rw[e5',aw,e7]
  simp only[aw]
  rw[bq (show-9223372036854775808≤1+r7.1 by omega) (by omega)]
  refine⟨_,rfl,?_,c7⟩
  have g1:pc 1 6 (1+r7.1)=true:=cJ.2 ⟨by omega,by omega⟩
  have g2:r5.2.all bU=true:=by
   rw[List.all_eq_true]
   exact c5
  have g3:decide ((r5.2.length:Int)≤5)=true:=decide_eq_true (by omega)
  unfold cH
  simp only[hf,he,hs,Bool.true_and]
  show(pc 1 5 4&&((decide ((r5.2.length:Int)≤5)&&((decide ((r5.2.length:Int)>0)||true)&&(pc 1 6 (1+r7.1)&&r5.2.all bU)))&&eP ⟨4,1+r2.1,r3.1,1+r4.1,[],1+r7.1,0,r5.2⟩ ⟨4,1+r2.1,r3.1,1+r4.1,[],1+r7.1,0,r5.2⟩))=true
  rw[g1,g2,g3,Bool.or_true,eN]
  rfl
 ·rw[hk]
  obtain⟨r7,e7,a7,b7,c7⟩:=o8 r4.2 c4 6 (by omega)
  show ∃r,((cn 6 r4.2).bind _)=some r∧_
  rw[e7,aw,bq (show-9223372036854775808≤1+r7.1 by omega) (by omega)]
  refine⟨_,rfl,?_,c7⟩
  have g1:pc 1 6 (1+r7.1)=true:=cJ.2 ⟨by omega,by omega⟩
  unfold cH
  simp only[hf,he,hs,Bool.true_and]
  show(pc 1 5 5&&(pc 1 6 (1+r7.1)&&eP ⟨5,1+r2.1,r3.1,1+r4.1,[],1+r7.1,0,[]⟩ ⟨5,1+r2.1,r3.1,1+r4.1,[],1+r7.1,0,[]⟩))=true
  rw[g1,eN]
  rfl
theorem dR {V X:Type} {step:V→Option (V ⊕ X)} (I:Nat→V→Prop) (Q:X→Prop)
  (h: ∀k v,I k v→ ∃o,step v=some o∧Sum.elim (fun v'=> ∃k',k'<k∧I k' v') Q o):
  ∀(k:Nat) (v:V) (n:Nat),I k v→k<n→ ∃x,iter step n v=some x∧Q x:=by
 intro k
 induction k using Nat.strongRecOn with
 |_ k ih=>
  intro v n hi hn
  obtain⟨o,ho,hq⟩:=h k v hi
  cases n with
  |zero=>omega
  |succ n=>
   rw[bw,ho]
   cases o with
   |inl v'=>
    obtain⟨k',h1,h2⟩:=hq
    exact ih k' h1 v' n h2 (by omega)
   |inr x=>exact⟨x,rfl,hq⟩
theorem et {α:Type} [BEq α] [LawfulBEq α] {a b:α} (h:a=b):(a==b)=true:=by rw[h];exact beq_self_eq_true b
theorem di {α:Type} [BEq α] [LawfulBEq α] {a b:α} (h:a≠b):(a==b)=false:=by
 cases hb:a==b with
 |false=>rfl
 |true=>exact absurd (eq_of_beq hb) h
theorem MY {n:Nat} {k:Int} (h:(n:Int)≠k):((n:Int) != k)=true:=by simp[h]
theorem eq_int {n:Nat} {k:Int} (h:(n:Int)=k):((n:Int) != k)=false:=by simp[h]
open Go
def rP:bL:=⟨[],0,[]⟩
def jH (f:bL):Prop:=f=rP∨(gk f.Name=true∧1≤f.qo∧f.qo≤1073741824∧f.Body.length≤24)
def oP (B:Int) (m:bC):Prop:=0≤m.Seq∧m.Seq≤B∧0≤m.G2∧m.G2≤3∧0≤m.aV∧m.aV≤6∧0≤m.qo∧m.qo≤1073741824
def once (l:List bL):Prop:= ∀(i j:Nat) (f g:bL),l[i]? =some f→l[j]? =some g→f.Name≠[]→f.Name=g.Name→i=j
structure Good (B:Int) (s:aI):Prop where
 nf:s.aQ.length=6
 nm:s.Marks.length=3
 e0:0≤s.aP
 e1:s.aP≤1073741824
 fs: ∀f∈s.aQ,jH f
 on:once s.aQ
 ms: ∀m∈s.Marks,oP B m
theorem jH.name {f:bL} (h:jH f):f.Name.length≤8:=by
 rcases h with rfl|⟨h,_⟩
 ·decide
 ·exact(xV h).2
theorem jH.body {f:bL} (h:jH f):f.Body.length≤24:=by
 rcases h with rfl|⟨_,_,_,h⟩
 ·decide
 ·exact h
theorem jH.ver {f:bL} (h:jH f):0≤f.qo∧f.qo≤1073741824:=by
 rcases h with rfl|⟨_,h1,h2,_⟩
 ·decide
 ·exact⟨by omega,h2⟩
theorem jH.none {f:bL} (h:jH f) (hn:f.Name=[]):f=rP:=by
 rcases h with h|⟨h,_⟩
 ·exact h
 ·have:=(xV h).1
  rw[hn]at this
  simp at this
theorem jH.some {f:bL} (h:jH f) (hn:f.Name≠[]):gk f.Name=true∧1≤f.qo:=by
 rcases h with rfl|⟨h,h2,_⟩
 ·exact absurd rfl hn
 ·exact⟨h,h2⟩
theorem oP.mono {B B':Int} {m:bC} (h:oP B m) (hb:B≤B'):oP B' m:=⟨h.1,Int.le_trans h.2.1 hb,h.2.2⟩
theorem Good.mono {B B':Int} {s:aI} (h:Good B s) (hb:B≤B'):Good B' s:=⟨h.nf,h.nm,h.e0,h.e1,h.fs,h.on,fun m hm=>(h.ms m hm).mono hb⟩
theorem jX {B q e f v:Int} (hq:0≤q) (hq2:q≤B) (e0:0≤e) (e1:e≤3) (f0:0≤f) (f1:f≤6) (v0:0≤v) (v1:v≤1073741824):oP B ⟨q,e,f,v⟩:=⟨hq,hq2,e0,e1,f0,f1,v0,v1⟩
theorem Of {n b:List UInt8} {v:Int} (h:gk n=true) (v0:1≤v) (v1:v≤1073741824) (hb:b.length≤24):jH ⟨n,v,b⟩:= .inr ⟨h,v0,v1,hb⟩
def kv:aI:=⟨[rP,rP,rP,rP,rP,rP],[⟨0,0,0,0⟩,⟨0,0,0,0⟩,⟨0,0,0,0⟩],0⟩
theorem Aw:Good 1 kv:=by
 refine⟨rfl,rfl,by decide,by decide,fun f hf=> ?_,fun i j f g hi _ hn _=> ?_,fun m hm=> ?_⟩
 ·simp only[kv,List.mem_cons,List.not_mem_nil,or_false,or_self]at hf
  exact .inl hf
 ·have:f∈kv.aQ:=List.mem_of_getElem? hi
  simp only[kv,List.mem_cons,List.not_mem_nil,or_false,or_self]at this
  rw[this]at hn
  exact absurd rfl hn
 ·simp only[kv,List.mem_cons,List.not_mem_nil,or_false,or_self]at hm
  subst hm
  exact⟨by decide,by decide,by decide,by decide,by decide,by decide,by decide,by decide⟩
theorem Q5 {l:List bL} (h:once l) (n:Nat) (f:bL) (hf:f.Name=[]∨ ∀(j:Nat) g,l[j]? =some g→g.Name=f.Name→j=n):once (l.set n f):=by
 intro i j x y hi hj hx he
 rw[List.getElem?_set]at hi hj
 by_cases h1:n=i
 ·by_cases h2:n=j
  ·omega
  ·rw[if_neg h2]at hj
   rw[if_pos h1]at hi
   split at hi
   ·cases hi
    rcases hf with hf|hf
    ·exact absurd hf hx
    ·have:=hf j y hj he.symm
     omega
   ·cases hi
 ·rw[if_neg h1]at hi
  by_cases h2:n=j
  ·rw[if_pos h2]at hj
   split at hj
   ·cases hj
    rcases hf with hf|hf
    ·rw[hf]at he;exact absurd he hx
    ·have:=hf i x hi he
     omega
   ·cases hj
  ·rw[if_neg h2]at hj
   exact h i j x y hi hj hx he
open Go
theorem Ru {v:Int} (h:0≤v) (h2:v≤1073741824):1≤jE (ay (v+1)) 1073741824∧jE (ay (v+1)) 1073741824≤1073741824:=by
 rw[bq (by omega) (by omega)]
 unfold jE
 split<;>omega
open Go
theorem oM (v:Int):fe v=true↔0≤v∧v≤1073741824:=by
 unfold fe rp
 try simp only[get_ite,aE,aD,aC,aF,aL,aK]
 by_cases h1:v≥0<;>by_cases h2:v≤1073741824<;>simp[h1,h2]<;>omega
theorem Gc (x y:bL):bL.ee x y=true↔x=y:=by
 obtain⟨a,b,c⟩:=x
 obtain⟨d,e,f⟩:=y
 simp[bL.ee]
theorem KW (x y:bC):bC.ee x y=true↔x=y:=by
 obtain⟨a,b,c,d⟩:=x
 obtain⟨e,f,g,h⟩:=y
 simp[bC.ee]
theorem M1 (f:bL) (hn:f.Name.length<4294967296): ∃b,tq fuel f=some b∧(b=true↔jH f):=by
 unfold tq pT
 try simp only[get_ite,aE,aD,aC,aF,aL,aK]
 by_cases h:f.Name=[]
 ·rw[et h]
  refine⟨_,rfl,(Gc _ _).trans ⟨fun h=> .inl h,fun h2=>h2.none h⟩⟩
 ·rw[di h]
  simp only[cond_false,wx _ hn,aw]
  have hnf:f≠rP:=fun e=>h (by rw[e];rfl)
  cases hm:gk f.Name with
  |false=>exact⟨_,rfl,⟨fun h=>(by cases h),fun h2=>by rw[(h2.some h).1]at hm;cases hm⟩⟩
  |true=>
   by_cases h1:f.qo≥1
   ·rw[decide_eq_true h1]
    cases hv:fe f.qo with
    |false=>
     refine⟨_,rfl,⟨fun h=>(by cases h),fun h2=> ?_⟩⟩
     rw[(oM _).2 h2.ver]at hv
     cases hv
    |true=>
     have hv':=(oM _).1 hv
     refine⟨_,rfl,⟨fun h=> .inr ⟨hm,h1,hv'.2,by have:=of_decide_eq_true h;omega⟩,fun h2=>decide_eq_true (by have:=h2.body;omega)⟩⟩
   ·rw[decide_eq_false h1]
    exact⟨_,rfl,⟨fun h=>(by cases h),fun h2=>absurd (h2.some h).2 h1⟩⟩
theorem RX (l:List bL) (o:bL) (hl:l.length≤1000):ia fuel l o=some (l.any fun g=>eJ g o):=by
 unfold ia fX oi iF lU
 try simp only[get_ite,aE,aD,aC,aF,aL,aK]
 obtain⟨x,e,hx⟩:=dR (step:=hC l (l.length:Int) o) (fun k v=> ∃i:Nat,v=(i:Int)∧i+k=l.length∧(l.take i).any (fun g=>eJ g o)=false)
  (fun r=>Sum.elim (fun j=>0≤j∧l.any (fun g=>eJ g o)=true) (fun _=>l.any (fun g=>eJ g o)=false) r) (fun k v hI=>by
  obtain⟨i,rfl,hk,ha⟩:=hI
  simp only[hC,gv,get_ite,aE,aD,aC,aF,aL,aK]
  by_cases hlt:i<l.length
  ·rw[da hlt,bP hlt,Int.toNat_natCast,List.getElem?_eq_getElem hlt]
   simp only[cond_true,aw]
   cases hc:eJ l[i] o with
   |true=>exact⟨_,rfl,Int.natCast_nonneg _,List.any_eq_true.2 ⟨_,List.getElem_mem hlt,hc⟩⟩
   |false=>
    simp only[cond_false]
    rw[bG (by omega)]
    refine⟨_,rfl,k-1,by omega,i+1,rfl,by omega,?_⟩
    rw[List.take_add_one,List.any_append,ha,List.getElem?_eq_getElem hlt]
    simp[hc]
  ·obtain rfl:i=l.length:=by omega
   rw[db]
   rw[List.take_length]at ha
   exact⟨_,rfl,ha⟩) l.length (0:Int) fuel ⟨0,rfl,by omega,rfl⟩ (cr (by omega))
 rw[e,aw]
 cases x with
 |inl j=>
  rw[hx.2]
  show some (decide (j≥0))=some true
  rw[decide_eq_true hx.1]
 |inr j=>
  have:l.any (fun g=>eJ g o)=false:=hx
  rw[this]
  rfl
theorem RW (l:List bC) (hl:l.length≤1000):hZ fuel l=some (l.any fun g=>ff g):=by
 unfold hZ fW oh iE lT
 try simp only[get_ite,aE,aD,aC,aF,aL,aK]
 obtain⟨x,e,hx⟩:=dR (step:=gX l (l.length:Int)) (fun k v=> ∃i:Nat,v=(i:Int)∧i+k=l.length∧(l.take i).any (fun g=>ff g)=false)
  (fun r=>Sum.elim (fun j=>0≤j∧l.any (fun g=>ff g)=true) (fun _=>l.any (fun g=>ff g)=false) r) (fun k v hI=>by
  obtain⟨i,rfl,hk,ha⟩:=hI
  simp only[gX,gu,get_ite,aE,aD,aC,aF,aL,aK]
  by_cases hlt:i<l.length
  ·rw[da hlt,bP hlt,Int.toNat_natCast,List.getElem?_eq_getElem hlt]
   simp only[cond_true,aw]
   cases hc:ff l[i]with
   |true=>exact⟨_,rfl,Int.natCast_nonneg _,List.any_eq_true.2 ⟨_,List.getElem_mem hlt,hc⟩⟩
   |false=>
    simp only[cond_false]
    rw[bG (by omega)]
    refine⟨_,rfl,k-1,by omega,i+1,rfl,by omega,?_⟩
    rw[List.take_add_one,List.any_append,ha,List.getElem?_eq_getElem hlt]
    simp[hc]
  ·obtain rfl:i=l.length:=by omega
   rw[db]
   rw[List.take_length]at ha
   exact⟨_,rfl,ha⟩) l.length (0:Int) fuel ⟨0,rfl,by omega,rfl⟩ (cr (by omega))
 rw[e,aw]
 cases x with
 |inl j=>
  rw[hx.2]
  show some (decide (j≥0))=some true
  rw[decide_eq_true hx.1]
 |inr j=>
  have:l.any (fun g=>ff g)=false:=hx
  rw[this]
  rfl
theorem KV (m:bC):o9 m=true↔oP 1073741824 m:=by
 unfold o9 pS oP
 try simp only[get_ite,aE,aD,aC,aF,aL,aK]
 have h1:=oM m.Seq
 have h2:=oM m.qo
 cases ha:fe m.Seq<;>cases hb:fe m.qo<;>rw[ha]at h1<;>rw[hb]at h2<;>by_cases hc:m.aV≥0<;>by_cases hd:m.aV≤6<;>by_cases he:m.G2≥0<;>by_cases hf:m.G2≤3<;>
  simp[hc,hd,he,hf]at h1 h2⊢ <;>omega
def ahead (l:List bL) (i:Nat):Prop:= ∀(j:Nat) f g,j<i→l[i]? =some f→l[j]? =some g→g.Name=f.Name→f.Name=[]
theorem KM (l:List bL):once l↔ ∀i,ahead l i:=by
 constructor
 ·intro h i j f g hj hf hg he
  refine Classical.byContradiction fun hn=> ?_
  have:=h i j f g hf hg hn he.symm
  omega
 ·intro h i j f g hf hg hn he
  rcases Nat.lt_trichotomy i j with hl|hl|hl
  ·exact absurd (h j i g f hl hg hf he) (by rw[←he];exact hn)
  ·exact hl
  ·exact absurd (h i j f g hl hf hg he.symm) hn
theorem R3 (g f:bL):eJ g f=true↔f.Name≠[]∧g.Name=f.Name:=by
 unfold eJ rq
 try simp only[get_ite,aE,aD,aC,aF,aL,aK]
 by_cases h:f.Name=[]
 ·rw[et h];simp[h]
 ·rw[di h];simp[h]
theorem VX (s:aI) (hn: ∀f∈s.aQ,f.Name.length<4294967296): ∃b,y4 fuel s=some b∧(b=true↔Good 1073741824 s):=by
 unfold y4 xi
 try simp only[get_ite,aE,aD,aC,aF,aL,aK]
 by_cases h1:s.aQ.length≠6
 ·rw[show((s.aQ.length:Int) != 6)=true by simp;omega]
  exact⟨_,rfl,⟨fun h=>(by cases h),fun h=>absurd h.nf h1⟩⟩
 rw[show((s.aQ.length:Int) != 6)=false by simp;omega]
 have h1:s.aQ.length=6:=Decidable.of_not_not h1
 by_cases h2:s.Marks.length≠3
 ·rw[show((s.Marks.length:Int) != 3)=true by simp;omega]
  exact⟨_,rfl,⟨fun h=>(by cases h),fun h=>absurd h.nm h2⟩⟩
 rw[show((s.Marks.length:Int) != 3)=false by simp;omega]
 have h2:s.Marks.length=3:=Decidable.of_not_not h2
 cases he:fe s.aP with
 |false=>
  refine⟨_,rfl,⟨fun h=>(by cases h),fun h=> ?_⟩⟩
  rw[(oM _).2 ⟨h.e0,h.e1⟩]at he
  cases he
 |true=>
  have he':=(oM _).1 he
  simp only[cond_false,Bool.not_true]
  unfold BE
  obtain⟨x,e,hx⟩:=dR (step:=uX fuel s.aQ (s.aQ.length:Int) s) (fun k v=> ∃i:Nat,v=(i:Int)∧i+k=s.aQ.length∧ ∀j,j<i→(∀f,s.aQ[j]? =some f→jH f)∧ahead s.aQ j)
   (fun r=>Sum.elim (fun _=> ¬Good 1073741824 s) (fun _=>(∀f∈s.aQ,jH f)∧once s.aQ) r) (fun k v hI=>by
   obtain⟨i,rfl,hk,ha⟩:=hI
   simp only[uX,tr,get_ite,aE,aD,aC,aF,aL,aK]
   by_cases hlt:i<s.aQ.length
   ·rw[da hlt,bP hlt,Int.toNat_natCast,List.getElem?_eq_getElem hlt]
    simp only[cond_true,aw]
    obtain⟨b,eb,hb⟩:=M1 s.aQ[i] (hn _ (List.getElem_mem hlt))
    rw[eb,aw]
    cases b with
    |false=>exact⟨_,rfl,fun hg=>by have:=hb.2 (hg.fs _ (List.getElem_mem hlt));cases this⟩
    |true=>
     simp only[Bool.not_true,cond_false]
     rw[fE (by omega) (by omega) (by omega),qY,RX _ _ (by rw[List.length_take];omega)]
     simp only[cond_true,aw]
     cases hc:(s.aQ.take i).any (fun g=>eJ g s.aQ[i])with
     |true=>
      refine⟨_,rfl,fun hg=> ?_⟩
      obtain⟨g,hg1,hg2⟩:=List.any_eq_true.1 hc
      obtain⟨j,hj1,hj2⟩:=List.mem_iff_getElem?.1 hg1|>.elim fun j hj=>(⟨j,by have:=oa hj;rw[List.length_take]at this;omega,hj⟩: ∃j,j<i∧(s.aQ.take i)[j]? =some g)
      rw[List.getElem?_take_of_lt hj1]at hj2
      obtain⟨hn1,hn2⟩:=(R3 _ _).1 hg2
      exact hn1 ((KM _).1 hg.on i j _ g hj1 (List.getElem?_eq_getElem hlt) hj2 hn2)
     |false=>
      simp only[cond_false]
      rw[bG (by omega)]
      refine⟨_,rfl,k-1,by omega,i+1,rfl,by omega,fun j hj=> ?_⟩
      by_cases hji:j=i
      ·subst hji
       refine⟨fun f hf=> ?_,fun a f g ha hf hg he=> ?_⟩
       ·rw[List.getElem?_eq_getElem hlt]at hf
        cases hf
        exact hb.1 rfl
       ·rw[List.getElem?_eq_getElem hlt]at hf
        cases hf
        refine Classical.byContradiction fun hne=> ?_
        have:(s.aQ.take j).any (fun g=>eJ g s.aQ[j])=true:=List.any_eq_true.2 ⟨g,List.mem_iff_getElem?.2 ⟨a,by rw[List.getElem?_take_of_lt ha];exact hg⟩,(R3 _ _).2 ⟨hne,he⟩⟩
        rw[hc]at this
        cases this
      ·exact ha j (by omega)
   ·obtain rfl:i=s.aQ.length:=by omega
    rw[db]
    refine⟨_,rfl,fun f hf=> ?_,(KM _).2 fun j=> ?_⟩
    ·obtain⟨j,hj⟩:=List.mem_iff_getElem?.1 hf
     exact(ha j (oa hj)).1 f hj
    ·by_cases hj:j<s.aQ.length
     ·exact(ha j hj).2
     ·intro a f g _ hf
      exact absurd (oa hf) hj) s.aQ.length (0:Int) fuel ⟨0,rfl,by omega,fun j h=>by omega⟩ (cr (by omega))
  rw[e,aw]
  cases x with
  |inl f=>exact⟨false,rfl,⟨fun h=>(by cases h),fun h=>absurd h hx⟩⟩
  |inr f=>
   simp only[fu]
   rw[RW s.Marks (by omega),aw]
   refine⟨_,rfl,?_⟩
   have hm:(!(s.Marks.any fun g=>ff g))=true↔ ∀m∈s.Marks,oP 1073741824 m:=by
    rw[Bool.not_eq_true',List.any_eq_false]
    refine forall_congr' fun m=>forall_congr' fun _=> ?_
    rw[←KV]
    unfold ff
    cases o9 m<;>simp
   rw[hm]
   exact⟨fun h=>⟨h1,h2,he'.1,he'.2,hx.1,hx.2,h⟩,fun h=>h.ms⟩
open Go
def KI (n:Nat) (s:List UInt8):List UInt8:=Qy s++List.replicate (n-s.length) 0
def Dq (m:bC):List UInt8:=be 4 m.Seq++(be 1 m.G2++(be 1 m.aV++be 4 m.qo))
def Gl (f:bL):List UInt8:=KI 8 f.Name++(be 4 f.qo++KI 24 f.Body)
def enc (s:aI):List UInt8:=be 4 s.aP++((s.Marks.map Dq).flatten++(s.aQ.map Gl).flatten)
def pQ (s:aI):List (List UInt8):=jl (enc s++List.replicate 26 0)
theorem BX {n:Nat} {s:List UInt8} (h:s.length≤n):(KI n s).length=n+1:=by
 unfold KI
 rw[List.length_append,jK,List.length_replicate];omega
theorem Gk (m:bC):(Dq m).length=10:=by
 unfold Dq;simp only[List.length_append,dO]
theorem Lw {f:bL} (h:jH f):(Gl f).length=38:=by
 unfold Gl;simp only[List.length_append,dO,BX h.name,BX h.body]
theorem uH {α:Type} (g:α→List UInt8) (n:Nat): ∀l:List α,(∀x∈l,(g x).length=n)→((l.map g).flatten).length=n*l.length
 |[],_=>rfl
 |x::r,h=>by
  rw[List.map_cons,List.flatten_cons,List.length_append,h x (List.mem_cons_self ..),uH g n r (fun y hy=>h y (List.mem_cons_of_mem _ hy)),List.length_cons,Nat.mul_add]
  omega
theorem EY {B:Int} {s:aI} (h:Good B s):(enc s).length=262:=by
 unfold enc
 rw[List.length_append,List.length_append,dO,uH Dq 10 _ (fun m _=>Gk m),uH Gl 38 _ (fun f hf=>Lw (h.fs f hf)),h.nm,h.nf]
theorem Il {α:Type} (g:α→List UInt8) (l:List α) (i:Nat) (h:i<l.length):((l.take (i+1)).map g).flatten=((l.take i).map g).flatten++g l[i]:=by
 rw[List.take_add_one,List.getElem?_eq_getElem h]
 simp only[Option.toList,List.map_append,List.map_cons,List.map_nil,List.flatten_append,List.flatten_cons,List.flatten_nil,List.append_nil]
theorem QR (b:List UInt8) (m:bC) (h:b.length≤1000):(((dp fuel b m.Seq 4)).bind fun r_2=>
   ((dp fuel r_2 m.G2 1)).bind fun r_3=>
   ((dp fuel r_3 m.aV 1)).bind fun r_4=>dp fuel r_4 m.qo 4)=some (b++Dq m):=by
 rw[Pg _ _ (by rw[cw];omega),aw,KE _ _ (by rw[cw];simp[dO];omega),aw,KE _ _ (by rw[cw];simp[dO];omega),aw,Pg _ _ (by rw[cw];simp[dO];omega)]
 unfold Dq
 simp only[List.append_assoc]
theorem Rb {n:Nat} (h:n≤1000):Od (n:Int)=true:=by
 unfold Od
 simp;omega
theorem HX (b s:List UInt8) (n:Nat) (hb:b.length≤1000) (hn:n≤100) (hs:s.length≤n):kZ b s ((n:Int)+1)=some (b++KI n s):=by
 unfold kZ r8
 try simp only[get_ite,aE,aD,aC,aF,aL,aK]
 rw[wJ b s (by omega) (by rw[cw];omega),aw,bq (show-9223372036854775808≤(n:Int)+1-1 by omega) (by omega),show(n:Int)+1-1-(s.length:Int)=((n-s.length:Nat):Int)by omega,bq (by omega) (by omega),Rb (by omega),Int.toNat_natCast]
 rw[decide_eq_true (by rw[cw];simp[jK];omega)]
 simp only[cond_true]
 unfold KI
 rw[List.append_assoc]
theorem adM (b s:List UInt8) (hb:b.length≤1000) (hs:s.length≤8):kZ b s 9=some (b++KI 8 s):=HX b s 8 hb (by omega) hs
theorem YW (b s:List UInt8) (hb:b.length≤1000) (hs:s.length≤24):kZ b s 25=some (b++KI 24 s):=HX b s 24 hb (by omega) hs
theorem M3 (l:List bC) (hl:l.length≤10) (s:aI) (b:List UInt8) (hb:b.length≤10):vR fuel l (l.length:Int) s 0 b=some (b++(l.map Dq).flatten):=by
 unfold vR
 obtain⟨x,e,hx⟩:=dR (step:=vP fuel l (l.length:Int) s) (fun k v=> ∃i:Nat,v.1=(i:Int)∧i+k=l.length∧v.2=b++((l.take i).map Dq).flatten)
  (fun r=>r=b++(l.map Dq).flatten) (fun k v hI=>by
  obtain⟨v1,v2⟩:=v
  obtain⟨i,h1,hk,h2⟩:=hI
  simp only at h1 h2
  subst h1 h2
  simp only[vP,tN,get_ite,aE,aD,aC,aF,aL,aK]
  by_cases hlt:i<l.length
  ·rw[da hlt,bP hlt,Int.toNat_natCast,List.getElem?_eq_getElem hlt]
   simp only[cond_true,aw]
   have:=QR (b++((l.take i).map Dq).flatten) l[i] (by rw[List.length_append,uH Dq 10 _ (fun m _=>Gk m),List.length_take];omega)
   have h3:=congrArg (fun o=>o.bind fun r=>some (Sum.inl (α:=Int×List UInt8) (β:=List UInt8) (ay ((i:Int)+1),r))) this
   simp only[Option.bind_assoc,aw]at h3
   rw[h3,bG (by omega)]
   refine⟨_,rfl,k-1,by omega,i+1,rfl,by omega,?_⟩
   rw[Il _ _ _ hlt,←List.append_assoc]
  ·obtain rfl:i=l.length:=by omega
   rw[db,List.take_length]
   exact⟨_,rfl,rfl⟩) l.length (0,b) fuel ⟨0,rfl,by omega,by simp⟩ (cr (by omega))
 rw[e,hx]
theorem Nn (l:List bL) (hl:l.length≤10) (hf: ∀f∈l,jH f) (s:aI) (b:List UInt8) (hb:b.length≤100):vQ fuel l (l.length:Int) s 0 b=some (b++(l.map Gl).flatten):=by
 unfold vQ
 obtain⟨x,e,hx⟩:=dR (step:=vO fuel l (l.length:Int) s) (fun k v=> ∃i:Nat,v.1=(i:Int)∧i+k=l.length∧v.2=b++((l.take i).map Gl).flatten)
  (fun r=>r=b++(l.map Gl).flatten) (fun k v hI=>by
  obtain⟨v1,v2⟩:=v
  obtain⟨i,h1,hk,h2⟩:=hI
  simp only at h1 h2
  subst h1 h2
  simp only[vO,tM,get_ite,aE,aD,aC,aF,aL,aK]
  by_cases hlt:i<l.length
  ·have hfo:=hf _ (List.getElem_mem hlt)
   have hbl:(b++((l.take i).map Gl).flatten).length≤500:=by
    rw[List.length_append,uH Gl 38 _ (fun f h=>Lw (hf f (List.mem_of_mem_take h))),List.length_take];omega
   rw[da hlt,bP hlt,Int.toNat_natCast,List.getElem?_eq_getElem hlt]
   simp only[cond_true,aw]
   rw[adM _ _ (by omega) hfo.name,aw,Pg _ _ (by rw[cw,List.length_append,BX hfo.name];omega),aw,YW _ _ (by rw[List.length_append,List.length_append,BX hfo.name,dO];omega) hfo.body,aw,bG (by omega)]
   refine⟨_,rfl,k-1,by omega,i+1,rfl,by omega,?_⟩
   rw[Il _ _ _ hlt]
   simp only[Gl,List.append_assoc]
  ·obtain rfl:i=l.length:=by omega
   rw[db,List.take_length]
   exact⟨_,rfl,rfl⟩) l.length (0,b) fuel ⟨0,rfl,by omega,by simp⟩ (cr (by omega))
 rw[e,hx]
open Classical in
noncomputable def SJ (s:aI):List (List UInt8):=if Good 1073741824 s then pQ s else[]
theorem Sc (s:aI) (hn: ∀f∈s.aQ,f.Name.length<4294967296):oY fuel s=some (SJ s):=by
 unfold oY ym SJ
 try simp only[get_ite,aE,aD,aC,aF,aL,aK]
 obtain⟨b,e,hb⟩:=VX s hn
 rw[e,aw]
 cases b with
 |false=>
  rw[if_neg fun h=>by have:=hb.2 h;cases this]
  rfl
 |true=>
  have hg:=hb.1 rfl
  rw[if_pos hg]
  simp only[Bool.not_true,cond_false]
  rw[Pg _ _ (by rw[cw];simp),aw,M3 _ (by rw[hg.nm];omega) _ _ (by simp[dO]),aw,Nn _ (by rw[hg.nf];omega) hg.fs _ _ (by simp only[List.length_append,dO,List.length_nil];rw[uH Dq 10 _ (fun m _=>Gk m),hg.nm];omega),aw]
  have hE:[]++be 4 s.aP++(s.Marks.map Dq).flatten++(s.aQ.map Gl).flatten=enc s:=by
   unfold enc;simp
  rw[hE,EY hg]
  rfl
open Go
theorem J0 (a b:List (List UInt8)) (ha:a.length≤1000):rE fuel a b=some (a==b):=by
 unfold rE oI
 try simp only[get_ite,aE,aD,aC,aF,aL,aK]
 by_cases hl:a.length=b.length
 ·rw[show((a.length:Int) != (b.length:Int))=false by simp;omega]
  simp only[cond_false]
  unfold sM
  obtain⟨x,e,hx⟩:=dR (step:=nB a b) (fun k v=> ∃i:Nat,v=(i:Int)∧i+k=a.length∧a.take i=b.take i) (fun r=>Sum.elim (fun _=>a≠b) (fun _=>a=b) r) (fun k v hI=>by
   obtain⟨i,rfl,hk,h⟩:=hI
   simp only[nB,mz,get_ite,aE,aD,aC,aF,aL,aK]
   by_cases hlt:i<a.length
   ·have hlt2:i<b.length:=by omega
    rw[da hlt,bP hlt,bP hlt2,Int.toNat_natCast,List.getElem?_eq_getElem hlt,List.getElem?_eq_getElem hlt2]
    simp only[cond_true,aw]
    by_cases he:a[i]=b[i]
    ·rw[et he,bG (by omega)]
     refine⟨_,rfl,k-1,by omega,i+1,rfl,by omega,?_⟩
     rw[List.take_add_one,List.take_add_one,h,List.getElem?_eq_getElem hlt,List.getElem?_eq_getElem hlt2,he]
    ·rw[di he]
     refine⟨_,rfl,fun h=>he (by subst h;rfl)⟩
   ·obtain rfl:i=a.length:=by omega
    rw[db]
    refine⟨_,rfl,?_⟩
    rw[List.take_length,hl,List.take_length]at h
    exact h) a.length (0:Int) fuel ⟨0,rfl,by omega,rfl⟩ (cr (by omega))
  rw[e,aw]
  cases x with
  |inl u=>rw[di (show a≠b from hx)];rfl
  |inr u=>rw[et (show a=b from hx)];rfl
 ·rw[show((a.length:Int) != (b.length:Int))=true by simp;omega,di (fun h=>hl (by rw[h]))]
  rfl
def s8 (a b:List (List UInt8)) (i:Nat):Option bJ:=match b[i]? with
 |some y=>if a[i]? =some y then none else some ⟨(i:Int),y⟩
 |none=>none
def lz (a b:List (List UInt8)):List bJ:=(List.range b.length).filterMap (s8 a b)
theorem Gu (a b:List (List UInt8)) (n:Nat):((List.range n).filterMap (s8 a b)).length≤n:=by
 have:=List.length_filterMap_le (s8 a b) (List.range n)
 rwa [List.length_range]at this
theorem Dv (a b:List (List UInt8)) (i:Nat):(List.range (i+1)).filterMap (s8 a b)=(List.range i).filterMap (s8 a b)++(s8 a b i).toList:=by
 rw[List.range_succ,List.filterMap_append]
 congr 1
theorem TU (a b:List (List UInt8)) (hb:b.length≤1000):AQ fuel a b=some (lz a b):=by
 unfold AQ vS zS
 try simp only[get_ite,aE,aD,aC,aF,aL,aK]
 obtain⟨x,e,hx⟩:=dR (step:=tO a b (b.length:Int)) (fun k v=> ∃i:Nat,v.1=(i:Int)∧i+k=b.length∧v.2=(List.range i).filterMap (s8 a b)) (fun r=>r=lz a b) (fun k v hI=>by
  obtain⟨v1,v2⟩:=v
  obtain⟨i,h1,hk,h2⟩:=hI
  simp only at h1 h2
  subst h1 h2
  simp only[tO,r9,get_ite,aE,aD,aC,aF,aL,aK]
  have hd:=Gu a b i
  by_cases hlt:i<b.length
  ·rw[da hlt,bP hlt,Int.toNat_natCast,List.getElem?_eq_getElem hlt]
   simp only[cond_true,aw]
   rw[decide_eq_true (show((List.range i).filterMap (s8 a b)).length+1≤dy by rw[cw];omega),bG (by omega)]
   by_cases ha:i<a.length
   ·rw[decide_eq_false (show ¬(i:Int)≥(a.length:Int)by omega),bP ha,List.getElem?_eq_getElem ha]
    simp only[cond_true,cond_false,aw]
    by_cases he:a[i]=b[i]
    ·rw[et he]
     refine⟨_,rfl,k-1,by omega,i+1,rfl,by omega,?_⟩
     rw[Dv]
     simp[s8,List.getElem?_eq_getElem hlt,List.getElem?_eq_getElem ha,he]
    ·rw[di he]
     refine⟨_,rfl,k-1,by omega,i+1,rfl,by omega,?_⟩
     rw[Dv]
     simp[s8,List.getElem?_eq_getElem hlt,List.getElem?_eq_getElem ha,he]
   ·rw[decide_eq_true (show(i:Int)≥(a.length:Int)by omega)]
    refine⟨_,rfl,k-1,by omega,i+1,rfl,by omega,?_⟩
    rw[Dv]
    simp[s8,List.getElem?_eq_getElem hlt,List.getElem?_eq_none (Nat.le_of_not_lt ha)]
  ·obtain rfl:i=b.length:=by omega
   rw[db]
   exact⟨_,rfl,rfl⟩) b.length (0,[]) fuel ⟨0,rfl,by omega,rfl⟩ (cr (by omega))
 rw[e,aw,hx]
theorem PR (a:List (List UInt8)):lz a a=[]:=by
 unfold lz
 rw[List.filterMap_eq_nil_iff]
 intro i _
 unfold s8
 cases h:a[i]? with
 |none=>rfl
 |some y=>simp
theorem Cc {B:Int} {s:aI} (h:Good B s):(pQ s).length=9:=by
 unfold pQ jl
 rw[List.length_map,List.length_range,List.length_append,EY h,List.length_replicate]
theorem Rv {B:Int} {s:aI} (h:Good B s): ∀x∈pQ s,x.length=32:=by
 intro x hx
 unfold pQ jl at hx
 rw[List.length_append,EY h,List.length_replicate]at hx
 obtain⟨k,hk,rfl⟩:=List.mem_map.1 hx
 have:=List.mem_range.1 hk
 unfold jk
 rw[List.length_take,List.length_drop,List.length_append,EY h,List.length_replicate]
 omega
theorem HP {s:aI} (h:Good 1073741824 s):SJ s=pQ s:=by unfold SJ;rw[if_pos h]
theorem F9 {B:Int} {s:aI} (h:Good B s): ∀f∈s.aQ,f.Name.length<4294967296:=fun f hf=>by have:=(h.fs f hf).name;omega
open Go
def FD (b:List UInt8):Option (bC×List UInt8):=(num 4 b).bind fun p=>(num 1 p.2).bind fun q=>(num 1 q.2).bind fun r=>(num 4 r.2).bind fun u=>some (⟨p.1,q.1,r.1,u.1⟩,u.2)
def zC (n:Nat) (b:List UInt8):Option (List UInt8×List UInt8):=(text b).bind fun p=>if p.1.length+1≤n∧n≤b.length then some (p.1,b.drop n)else none
def Ob (b:List UInt8):Option (bL×List UInt8):=(zC 9 b).bind fun p=>(num 4 p.2).bind fun q=>(zC 25 q.2).bind fun r=>some (⟨p.1,q.1,r.1⟩,r.2)
def xO {A:Type} (p:List UInt8→Option (A×List UInt8)):Nat→List UInt8→List A→Option (List A×List UInt8)
 |0,b,l=>some (l,b)
 |n+1,b,l=>(p b).bind fun x=>xO p n x.2 (l++[x.1])
def Q0 (b:List UInt8):Option aI:=(num 4 b).bind fun e=>(xO FD 3 e.2 []).bind fun m=>(xO Ob 6 m.2 []).bind fun f=>some ⟨f.1,m.1,e.1⟩
theorem Oq (b:List UInt8) (k:Nat) (h1:1≤k) (h7:k≤7):dh fuel (k:Int) ⟨b⟩=some (match num k b with|some (v,r)=> .inl (v,⟨r⟩)|none=> .inr ()):=by
 unfold dh kF
 try simp only[get_ite,aE,aD,aC,aF,aL,aK]
 rw[wK b k h1 h7]
 unfold num
 by_cases h:b.length<k
 ·rw[if_pos h];rfl
 ·rw[if_neg h]
  simp only[aw,Bool.not_true,cond_false]
  rw[fE (by omega) (by omega) (by omega),nV]
  rfl
theorem Rt (b:List UInt8):oX fuel 4 ⟨b⟩=some (match num 4 b with|some (v,r)=> .inl (v,⟨r⟩,b)|none=> .inr ()):=by
 unfold oX mG
 try simp only[get_ite,aE,aD,aC,aF,aL,aK]
 have:=wK b 4 (by omega) (by omega)
 rw[show((4:Nat):Int)=4 from rfl]at this
 rw[this]
 unfold num
 by_cases h:b.length<4
 ·rw[if_pos h];rfl
 ·rw[if_neg h]
  simp only[aw,Bool.not_true,cond_false]
  have hc:=nV b 4
  rw[show((4:Nat):Int)=4 from rfl]at hc
  rw[fE (by omega) (by omega) (by omega),hc]
  rfl
theorem in1 (b:List UInt8):dh fuel 1 ⟨b⟩=some (match num 1 b with|some (v,r)=> .inl (v,⟨r⟩)|none=> .inr ()):=Oq b 1 (by omega) (by omega)
theorem in4 (b:List UInt8):dh fuel 4 ⟨b⟩=some (match num 4 b with|some (v,r)=> .inl (v,⟨r⟩)|none=> .inr ()):=Oq b 4 (by omega) (by omega)
theorem K9 (b:List UInt8) (n:Nat) (hn:n≤100) (hb:b.length≤dy):fq (n:Int) ⟨b⟩=some (match zC n b with|some (s,r)=> .inl (s,⟨r⟩)|none=> .inr ()):=by
 unfold fq lK zC
 try simp only[get_ite,aE,aD,aC,aF,aL,aK]
 rw[Bt b hb]
 cases h:text b with
 |none=>rfl
 |some p=>
  obtain⟨s,r⟩:=p
  simp only[aw,Bool.not_true,cond_false]
  by_cases h1:s.length+1≤n
  ·rw[decide_eq_false (show ¬(s.length:Int)+1>(n:Int)by omega)]
   by_cases h2:n≤b.length
   ·rw[decide_eq_false (show ¬(b.length:Int)<(n:Int)by omega),if_pos ⟨h1,h2⟩,fE (by omega) (by omega) (by omega),nV]
    rfl
   ·rw[decide_eq_true (show(b.length:Int)<(n:Int)by omega),if_neg (fun h=>h2 h.2)]
    rfl
  ·rw[decide_eq_true (show(s.length:Int)+1>(n:Int)by omega),if_neg (fun h=>h1 h.1)]
   rfl
theorem it9 (b:List UInt8) (hb:b.length≤dy):fq 9 ⟨b⟩=some (match zC 9 b with|some (s,r)=> .inl (s,⟨r⟩)|none=> .inr ()):=K9 b 9 (by omega) hb
theorem afr (b:List UInt8) (hb:b.length≤dy):fq 25 ⟨b⟩=some (match zC 25 b with|some (s,r)=> .inl (s,⟨r⟩)|none=> .inr ()):=K9 b 25 (by omega) hb
theorem DP {n:Nat} {b s r:List UInt8} (h:zC n b=some (s,r)):s.length+1≤n∧r.length+n=b.length:=by
 unfold zC at h
 cases ht:text b with
 |none=>rw[ht]at h;cases h
 |some p=>
  rw[ht,aw]at h
  split at h
  ·rename_i hc
   cases h
   exact⟨hc.1,by rw[List.length_drop];omega⟩
  ·cases h
theorem QL (r1:List UInt8) (e:Int): ∀(m i:Nat) (b:List UInt8) (l:List bC) (n:Nat),i+m=3→m<n→l.length+m≤100→ ∃x,iter (kE fuel r1) n ((i:Int),⟨b⟩,⟨[],l,e⟩)=some x∧
  (match xO FD m b l with|some (l',b')=>x= .inr (⟨b'⟩,⟨[],l',e⟩)|none=> ∃y,x= .inl y)
 |_,_,_,_,0,_,h,_=>absurd h (Nat.not_lt_zero _)
 |0,i,b,l,n+1,hi,_,_=>by
  obtain rfl:i=3:=by omega
  rw[bw]
  exact⟨_,rfl,rfl⟩
 |m+1,i,b,l,n+1,hi,hn,hl=>by
  rw[bw]
  simp only[kE,jG,get_ite,aE,aD,aC,aF,aL,aK]
  rw[decide_eq_true (show(i:Int)<3 by omega),in4]
  simp only[cond_true,aw,xO,FD]
  cases h1:num 4 b with
  |none=>exact⟨_,rfl,_,rfl⟩
  |some p=>
   obtain⟨v1,b1⟩:=p
   simp only[bB,aw]
   rw[in1,aw]
   cases h2:num 1 b1 with
   |none=>exact⟨_,rfl,_,rfl⟩
   |some p=>
    obtain⟨v2,b2⟩:=p
    simp only[bB,aw]
    rw[in1,aw]
    cases h3:num 1 b2 with
    |none=>exact⟨_,rfl,_,rfl⟩
    |some p=>
     obtain⟨v3,b3⟩:=p
     simp only[bB,aw]
     rw[in4,aw]
     cases h4:num 4 b3 with
     |none=>exact⟨_,rfl,_,rfl⟩
     |some p=>
      obtain⟨v4,b4⟩:=p
      simp only[bB,aw]
      rw[decide_eq_true (show l.length+1≤dy by rw[cw];omega),bG (by omega)]
      exact QL r1 e m (i+1) b4 (l++[⟨v1,v2,v3,v4⟩]) n (by omega) (by omega) (by simp;omega)
theorem QM (r1:List UInt8) (e:Int) (mk:List bC): ∀(m i:Nat) (b:List UInt8) (l:List bL) (n:Nat),i+m=6→m<n→l.length+m≤100→b.length≤dy→ ∃x,iter (kD fuel r1) n ((i:Int),⟨b⟩,⟨l,mk,e⟩)=some x∧
  (match xO Ob m b l with|some (l',b')=>x= .inr (.inr (⟨b'⟩,⟨l',mk,e⟩))|none=>(∃y,x= .inl y)∨ ∃y,x= .inr (.inl y))
 |_,_,_,_,0,_,h,_,_=>absurd h (Nat.not_lt_zero _)
 |0,i,b,l,n+1,hi,_,_,_=>by
  obtain rfl:i=6:=by omega
  rw[bw]
  exact⟨_,rfl,rfl⟩
 |m+1,i,b,l,n+1,hi,hn,hl,hb=>by
  rw[bw]
  simp only[kD,jF,get_ite,aE,aD,aC,aF,aL,aK]
  rw[decide_eq_true (show(i:Int)<6 by omega),it9 _ hb]
  simp only[cond_true,aw,xO,Ob]
  cases h1:zC 9 b with
  |none=>exact⟨_,rfl,.inl ⟨_,rfl⟩⟩
  |some p=>
   obtain⟨v1,b1⟩:=p
   have hb1:=(DP h1).2
   simp only[bB,aw]
   rw[in4,aw]
   cases h2:num 4 b1 with
   |none=>exact⟨_,rfl,.inl ⟨_,rfl⟩⟩
   |some p=>
    obtain⟨v2,b2⟩:=p
    have hb2:=(cO h2).1
    simp only[bB,aw]
    rw[afr _ (by omega),aw]
    cases h3:zC 25 b2 with
    |none=>exact⟨_,rfl,.inr ⟨_,rfl⟩⟩
    |some p=>
     obtain⟨v3,b3⟩:=p
     have hb3:=(DP h3).2
     simp only[bB,aw]
     rw[decide_eq_true (show l.length+1≤dy by rw[cw];omega),bG (by omega)]
     exact QM r1 e mk m (i+1) b3 (l++[⟨v1,v2,v3⟩]) n (by omega) (by omega) (by simp;omega) (by omega)
theorem FC: ∀(m:Nat) (b:List UInt8) (l l':List bC) (b':List UInt8),xO FD m b l=some (l',b')→b'.length≤b.length
 |0,b,l,l',b',h=>by cases h;exact Nat.le_refl _
 |m+1,b,l,l',b',h=>by
  rw[xO]at h
  cases hp:FD b with
  |none=>rw[hp]at h;cases h
  |some p=>
   rw[hp,aw]at h
   have hq:=FC m _ _ _ _ h
   have hq2:p.2.length≤b.length:=by
    unfold FD at hp
    cases h1:num 4 b with
    |none=>rw[h1]at hp;cases hp
    |some p1=>
     rw[h1,aw]at hp
     cases h2:num 1 p1.2 with
     |none=>rw[h2]at hp;cases hp
     |some p2=>
      rw[h2,aw]at hp
      cases h3:num 1 p2.2 with
      |none=>rw[h3]at hp;cases hp
      |some p3=>
       rw[h3,aw]at hp
       cases h4:num 4 p3.2 with
       |none=>rw[h4]at hp;cases hp
       |some p4=>
        rw[h4,aw]at hp
        cases hp
        have:=(cO h1).1
        have:=(cO h2).1
        have:=(cO h3).1
        have:=(cO h4).1
        show p4.2.length≤_
        omega
   omega
theorem N8 (b:List UInt8) (hb:b.length≤dy): ∃r,nP fuel ⟨b⟩=some r∧(match Q0 b with|some s=> ∃y,r= .inl (s,y)|none=> ∃y,r= .inr y):=by
 unfold nP lL Q0
 try simp only[get_ite,aE,aD,aC,aF,aL,aK]
 rw[Rt,aw]
 cases h1:num 4 b with
 |none=>exact⟨_,rfl,_,rfl⟩
 |some p=>
  obtain⟨v1,b1⟩:=p
  have hb1:=(cO h1).1
  simp only[bB,aw]
  obtain⟨x,e,hx⟩:=QL b v1 3 0 b1 [] fuel rfl (cr (by omega)) (by simp)
  have e':pL fuel b 0 ⟨b1⟩ (aI.mk [] [] v1)=some x:=e
  rw[e',aw]
  cases h2:xO FD 3 b1 []with
  |none=>
   rw[h2]at hx
   obtain⟨y,rfl⟩:=hx
   exact⟨_,rfl,_,rfl⟩
  |some p=>
   obtain⟨mk,b2⟩:=p
   rw[h2]at hx
   simp only at hx
   subst hx
   have hb2:=FC _ _ _ _ _ h2
   simp only[fu,aw]
   obtain⟨x,e,hx⟩:=QM b v1 mk 6 0 b2 [] fuel rfl (cr (by omega)) (by simp) (by omega)
   have e':pK fuel b 0 ⟨b2⟩ (aI.mk [] mk v1)=some x:=e
   rw[e',aw]
   cases h3:xO Ob 6 b2 []with
   |none=>
    rw[h3]at hx
    rcases hx with⟨y,rfl⟩|⟨y,rfl⟩
    ·exact⟨_,rfl,_,rfl⟩
    ·exact⟨_,rfl,_,rfl⟩
   |some p=>
    obtain⟨fl,b3⟩:=p
    rw[h3]at hx
    simp only at hx
    subst hx
    exact⟨_,rfl,_,rfl⟩
open Go
open Go
open Go
theorem N9 (x y:bJ):bJ.ee x y=true↔x=y:=by
 obtain⟨a,b⟩:=x
 obtain⟨c,d⟩:=y
 simp[bJ.ee]
theorem J2 (a b:List bC) (ha:a.length≤1000): ∃r,rC fuel a b=some r∧(r=true↔a=b):=by
 unfold rC oH
 try simp only[get_ite,aE,aD,aC,aF,aL,aK]
 by_cases hl:a.length=b.length
 ·rw[eq_int (show(a.length:Int)=(b.length:Int)by omega)]
  simp only[cond_false]
  unfold sL
  obtain⟨x,e,hx⟩:=dR (step:=nA a b) (fun k v=> ∃i:Nat,v=(i:Int)∧i+k=a.length∧a.take i=b.take i) (fun r=>Sum.elim (fun _=>a≠b) (fun _=>a=b) r) (fun k v hI=>by
   obtain⟨i,rfl,hk,h⟩:=hI
   simp only[nA,my,get_ite,aE,aD,aC,aF,aL,aK]
   by_cases hlt:i<a.length
   ·have hlt2:i<b.length:=by omega
    rw[da hlt,bP hlt,bP hlt2,Int.toNat_natCast,List.getElem?_eq_getElem hlt,List.getElem?_eq_getElem hlt2]
    simp only[cond_true,aw]
    cases he:bC.ee a[i] b[i]with
    |true=>
     have he:=(KW _ _).1 he
     rw[bG (by omega)]
     refine⟨_,rfl,k-1,by omega,i+1,rfl,by omega,?_⟩
     rw[List.take_add_one,List.take_add_one,h,List.getElem?_eq_getElem hlt,List.getElem?_eq_getElem hlt2,he]
    |false=>
     refine⟨_,rfl,fun h=> ?_⟩
     subst h
     rw[(KW _ _).2 rfl]at he
     cases he
   ·obtain rfl:i=a.length:=by omega
    rw[db]
    refine⟨_,rfl,?_⟩
    rw[List.take_length,hl,List.take_length]at h
    exact h) a.length (0:Int) fuel ⟨0,rfl,by omega,rfl⟩ (cr (by omega))
  rw[e,aw]
  cases x with
  |inl u=>exact⟨false,rfl,⟨fun h=>(by cases h),fun h=>absurd h hx⟩⟩
  |inr u=>exact⟨true,rfl,⟨fun _=>hx,fun _=>rfl⟩⟩
 ·rw[MY (show(a.length:Int)≠(b.length:Int)by omega)]
  exact⟨false,rfl,⟨fun h=>(by cases h),fun h=>absurd (by rw[h]) hl⟩⟩
theorem J1 (a b:aI) (ha:a.Marks.length≤1000) (hf:a.aQ.length≤1000): ∃r,nz fuel a b=some r∧(r=true↔a=b):=by
 unfold nz oG
 try simp only[get_ite,aE,aD,aC,aF,aL,aK]
 by_cases hl:a.aQ.length=b.aQ.length
 ·rw[eq_int (show(a.aQ.length:Int)=(b.aQ.length:Int)by omega)]
  simp only[cond_false]
  obtain⟨r,e,hr⟩:=J2 a.Marks b.Marks ha
  rw[e,aw]
  cases r with
  |false=>exact⟨false,rfl,⟨fun h=>(by cases h),fun h=>by rw[h]at hr;exact hr.2 rfl⟩⟩
  |true=>
   have hm:=hr.1 rfl
   simp only[Bool.not_true,cond_false]
   by_cases hE:a.aP=b.aP
   ·rw[show(a.aP != b.aP)=false by simp[hE]]
    simp only[cond_false]
    unfold sK
    obtain⟨x,e,hx⟩:=dR (step:=ny a b) (fun k v=> ∃i:Nat,v=(i:Int)∧i+k=a.aQ.length∧a.aQ.take i=b.aQ.take i) (fun r=>Sum.elim (fun _=>a.aQ≠b.aQ) (fun _=>a.aQ=b.aQ) r) (fun k v hI=>by
     obtain⟨i,rfl,hk,h⟩:=hI
     simp only[ny,mw,get_ite,aE,aD,aC,aF,aL,aK]
     by_cases hlt:i<a.aQ.length
     ·have hlt2:i<b.aQ.length:=by omega
      rw[da hlt,bP hlt,bP hlt2,Int.toNat_natCast,List.getElem?_eq_getElem hlt,List.getElem?_eq_getElem hlt2]
      simp only[cond_true,aw]
      cases he:bL.ee a.aQ[i] b.aQ[i]with
      |true=>
       have he:=(Gc _ _).1 he
       rw[bG (by omega)]
       refine⟨_,rfl,k-1,by omega,i+1,rfl,by omega,?_⟩
       rw[List.take_add_one,List.take_add_one,h,List.getElem?_eq_getElem hlt,List.getElem?_eq_getElem hlt2,he]
      |false=>
       refine⟨_,rfl,fun h=> ?_⟩
       have:a.aQ[i]=b.aQ[i]:=by simp only[h]
       rw[(Gc _ _).2 this]at he
       cases he
     ·obtain rfl:i=a.aQ.length:=by omega
      rw[db]
      refine⟨_,rfl,?_⟩
      rw[List.take_length,hl,List.take_length]at h
      exact h) a.aQ.length (0:Int) fuel ⟨0,rfl,by omega,rfl⟩ (cr (by omega))
    rw[e,aw]
    cases x with
    |inl u=>exact⟨false,rfl,⟨fun h=>(by cases h),fun h=>absurd (by rw[h]) hx⟩⟩
    |inr u=>
     refine⟨true,rfl,⟨fun _=> ?_,fun _=>rfl⟩⟩
     obtain⟨f,m,ep⟩:=a
     obtain⟨f2,m2,ep2⟩:=b
     have hx':f=f2:=hx
     have hm':m=m2:=hm
     have hE':ep=ep2:=hE
     rw[hx',hm',hE']
   ·rw[show(a.aP != b.aP)=true by simp[hE]]
    exact⟨false,rfl,⟨fun h=>(by cases h),fun h=>absurd (by rw[h]) hE⟩⟩
 ·rw[MY (show(a.aQ.length:Int)≠(b.aQ.length:Int)by omega)]
  exact⟨false,rfl,⟨fun h=>(by cases h),fun h=>absurd (by rw[h]) hl⟩⟩
theorem Mj (a b:List bJ) (ha:a.length≤1000): ∃r,pe fuel a b=some r∧(r=true↔a=b):=by
 unfold pe qb
 try simp only[get_ite,aE,aD,aC,aF,aL,aK]
 by_cases hl:a.length=b.length
 ·rw[eq_int (show(a.length:Int)=(b.length:Int)by omega)]
  simp only[cond_false]
  unfold uz
  obtain⟨x,e,hx⟩:=dR (step:=oJ a b) (fun k v=> ∃i:Nat,v=(i:Int)∧i+k=a.length∧a.take i=b.take i) (fun r=>Sum.elim (fun _=>a≠b) (fun _=>a=b) r) (fun k v hI=>by
   obtain⟨i,rfl,hk,h⟩:=hI
   simp only[oJ,nC,get_ite,aE,aD,aC,aF,aL,aK]
   by_cases hlt:i<a.length
   ·have hlt2:i<b.length:=by omega
    rw[da hlt,bP hlt,bP hlt2,Int.toNat_natCast,List.getElem?_eq_getElem hlt,List.getElem?_eq_getElem hlt2]
    simp only[cond_true,aw]
    cases he:bJ.ee a[i] b[i]with
    |true=>
     have he:=(N9 _ _).1 he
     rw[bG (by omega)]
     refine⟨_,rfl,k-1,by omega,i+1,rfl,by omega,?_⟩
     rw[List.take_add_one,List.take_add_one,h,List.getElem?_eq_getElem hlt,List.getElem?_eq_getElem hlt2,he]
    |false=>
     refine⟨_,rfl,fun h=> ?_⟩
     subst h
     rw[(N9 _ _).2 rfl]at he
     cases he
   ·obtain rfl:i=a.length:=by omega
    rw[db]
    refine⟨_,rfl,?_⟩
    rw[List.take_length,hl,List.take_length]at h
    exact h) a.length (0:Int) fuel ⟨0,rfl,by omega,rfl⟩ (cr (by omega))
  rw[e,aw]
  cases x with
  |inl u=>exact⟨false,rfl,⟨fun h=>(by cases h),fun h=>absurd h hx⟩⟩
  |inr u=>exact⟨true,rfl,⟨fun _=>hx,fun _=>rfl⟩⟩
 ·rw[MY (show(a.length:Int)≠(b.length:Int)by omega)]
  exact⟨false,rfl,⟨fun h=>(by cases h),fun h=>absurd (by rw[h]) hl⟩⟩
theorem GW (a:aI) (ha:a.Marks.length≤1000) (hf:a.aQ.length≤1000):nz fuel a a=some true:=by
 obtain⟨r,e,hr⟩:=J1 a a ha hf
 rw[e,hr.2 rfl]
theorem Hq (a:List bJ) (ha:a.length≤1000):pe fuel a a=some true:=by
 obtain⟨r,e,hr⟩:=Mj a a ha
 rw[e,hr.2 rfl]
theorem zl {a b:List (List UInt8)} {i:Nat} {p:bJ}:s8 a b i=some p↔ ∃y,b[i]? =some y∧a[i]? ≠some y∧p=⟨(i:Int),y⟩:=by
 unfold s8
 cases h:b[i]? with
 |none=>simp
 |some y=>
  try simp only
  by_cases he:a[i]? =some y
  ·rw[if_pos he]
   simp[he]
  ·rw[if_neg he]
   constructor
   ·intro h;cases h;exact⟨y,rfl,he,rfl⟩
   ·rintro⟨y',h1,_,rfl⟩
    cases h1
    rfl
theorem FO {a b:List (List UInt8)} {p:bJ} (h:p∈lz a b): ∃(i:Nat) (y:List UInt8),i<b.length∧b[i]? =some y∧a[i]? ≠some y∧p=⟨(i:Int),y⟩:=by
 unfold lz at h
 obtain⟨i,hi,h2⟩:=List.mem_filterMap.1 h
 obtain⟨y,h3,h4,h5⟩:=zl.1 h2
 exact⟨i,y,List.mem_range.1 hi,h3,h4,h5⟩
theorem LD {a b:List (List UInt8)} {i:Nat} {y:List UInt8} (h:b[i]? =some y) (hn:a[i]? ≠some y):(⟨(i:Int),y⟩:bJ)∈lz a b:=by
 unfold lz
 exact List.mem_filterMap.2 ⟨i,List.mem_range.2 (oa h),zl.2 ⟨y,h,hn,rfl⟩⟩
theorem Eg (a b:List (List UInt8)):(lz a b).Pairwise (fun x y=>x.At<y.At):=by
 unfold lz
 refine List.Pairwise.filterMap _ ?_ List.pairwise_lt_range
 intro i j hij x hx y hy
 obtain⟨_,_,_,rfl⟩:=zl.1 hx
 obtain⟨_,_,_,rfl⟩:=zl.1 hy
 show(i:Int)<(j:Int)
 omega
theorem RK {a b:List (List UInt8)} (hl:a.length=b.length):lz a b=[]↔a=b:=by
 constructor
 ·intro h
  apply List.ext_getElem?
  intro i
  cases hb:b[i]? with
  |none=>rw[List.getElem?_eq_none_iff]at hb⊢;omega
  |some y=>
   refine Classical.byContradiction fun hn=> ?_
   have:=LD hb hn
   rw[h]at this
   cases this
 ·intro h;subst h;exact PR a
open Go
def dj:List UInt8:=[0,0,0,0,0,0,0,0,0,0,0,0,0,0,0,0,0,0,0,0,0,0,0,0,0,0,0,0,0,0,0,0]
def HY (n:Nat) (p:bJ):Prop:=0≤p.At∧p.At<n∧p.B.length=32
structure Hr (d:aT):Prop where
 last: ∀x∈d.bz,x.length=32
 len:d.bz.length≤1000
 wait: ∀p∈d.bM,HY d.bz.length p
 adH:d.bM.length≤1000
 a0:0≤d.im
 a1:d.im≤1000
def dF (d:aT) (p:bJ):aT:=if d.im>0 then⟨d.bz,d.bM++[p],d.im-1,d.im-1==0⟩else⟨d.bz,d.bM++[p],d.im,d.Down⟩
def wr (L:List (List UInt8)) (ws:List bJ):List (List UInt8):=ws.foldl (fun L p=>L.set p.At.toNat p.B) L
def bK (d:aT):aT:=⟨wr d.bz d.bM,[],d.im,d.Down⟩
theorem fQ (d:aT) (p:bJ):(dF d p).bz=d.bz:=by unfold dF;split<;>rfl
theorem qR (d:aT) (p:bJ):(dF d p).bM=d.bM++[p]:=by unfold dF;split<;>rfl
theorem IC (d:aT) (hd:Hr d) (hw:d.bM.length<1000) (hdn:d.Down=false) (i:Int) (b:List UInt8) (hp:HY d.bz.length ⟨i,b⟩):sg d i b=some (dF d ⟨i,b⟩,!(dF d ⟨i,b⟩).Down):=by
 obtain⟨h0,h1,h2⟩:=hp
 simp only at h0 h1 h2
 have ha0:=hd.a0
 have ha1:=hd.a1
 unfold sg wk
 try simp only[get_ite,aE,aD,aC,aF,aL,aK]
 have ht:A0 d i=true:=by
  unfold A0 wj
  try simp only[get_ite,aE,aD,aC,aF,aL,aK]
  rw[hdn,decide_eq_true (show i≥0 from h0),decide_eq_true h1]
  rfl
 rw[ht,h2,decide_eq_true (show d.bM.length+1≤dy by rw[cw];omega),bq (show-9223372036854775808≤d.im-1 by omega) (by omega)]
 unfold dF
 by_cases ha:d.im>0
 ·rw[decide_eq_true ha,if_pos ha];rfl
 ·rw[decide_eq_false ha,if_neg ha];rfl
theorem uQ {d:aT} (hd:Hr d) (hw:d.bM.length<1000) {p:bJ} (hp:HY d.bz.length p):Hr (dF d p):=by
 refine⟨by rw[fQ];exact hd.last,by rw[fQ];exact hd.len,?_,by rw[qR];simp;omega,?_,?_⟩
 ·rw[fQ,qR]
  intro q hq
  rcases List.mem_append.1 hq with hq|hq
  ·exact hd.wait q hq
  ·rw[List.mem_singleton.1 hq];exact hp
 ·have:=hd.a0
  unfold dF
  split
  ·show 0≤d.im-1;omega
  ·exact this
 ·have:=hd.a1
  unfold dF
  split
  ·show d.im-1≤1000;omega
  ·exact this
def Qm (d:aT):bd ⊕ bd:=bif d.Down then .inr ⟨d⟩else .inl ⟨d⟩
theorem CF (d:aT) (hd:Hr d) (hw:d.bM.length<1000) (hdn:d.Down=false) (i:Int) (b:List UInt8) (hp:HY d.bz.length ⟨i,b⟩):eW i b ⟨d⟩=some (Qm (dF d ⟨i,b⟩)):=by
 unfold eW jD
 try simp only[get_ite,aE,aD,aC,aF,aL,aK]
 rw[IC d hd hw hdn i b hp,aw]
 unfold fc gb Qm
 try simp only[get_ite,aE,aD,aC,aF,aL,aK]
 cases (dF d ⟨i,b⟩).Down<;>rfl
theorem OS (d:aT) (hd:Hr d) (hw:d.bM.length<1000) (hdn:d.Down=false) (i:Int) (b:List UInt8) (hp:HY d.bz.length ⟨i,b⟩):jZ i b ⟨d⟩=some (bif (dF d ⟨i,b⟩).Down then .inr (⟨dF d ⟨i,b⟩⟩,d.bz,d.bM)else .inl (⟨dF d ⟨i,b⟩⟩,d.bz,d.bM)):=by
 unfold jZ lI
 try simp only[get_ite,aE,aD,aC,aF,aL,aK]
 rw[IC d hd hw hdn i b hp,aw]
 unfold fc gb
 try simp only[get_ite,aE,aD,aC,aF,aL,aK]
 cases (dF d ⟨i,b⟩).Down<;>rfl
theorem lA (ws:List bJ): ∀L:List (List UInt8),(wr L ws).length=L.length:=by
 induction ws with
 |nil=>intro L;rfl
 |cons p r ih=>intro L;show(wr (L.set p.At.toNat p.B) r).length=_;rw[ih,List.length_set]
theorem NW (ws:List bJ): ∀L:List (List UInt8),(∀x∈L,x.length=32)→(∀p∈ws,p.B.length=32)→ ∀x∈wr L ws,x.length=32:=by
 induction ws with
 |nil=>intro L h _;exact h
 |cons p r ih=>
  intro L h hp
  refine ih _ (fun x hx=> ?_) (fun q hq=>hp q (List.mem_cons_of_mem _ hq))
  rcases List.mem_or_eq_of_mem_set hx with hx|rfl
  ·exact h x hx
  ·exact hp p (List.mem_cons_self ..)
theorem UG (L:List (List UInt8)) (a b:List bJ):wr L (a++b)=wr (wr L a) b:=List.foldl_append ..
theorem S0 (p:bJ) (d:aT) (hl: ∀x∈d.bz,x.length=32) (hp:HY d.bz.length p):mJ p 32 ⟨d⟩=some ⟨⟨d.bz.set p.At.toNat p.B,d.bM,d.im,d.Down⟩⟩:=by
 obtain⟨h0,h1,h2⟩:=hp
 have hlt:p.At.toNat<d.bz.length:=by omega
 have hy:=hl _ (List.getElem_mem hlt)
 unfold mJ kI
 try simp only[get_ite,aE,aD,aC,aF,aL,aK]
 rw[decide_eq_false (show ¬p.At<0 by omega),decide_eq_false (show ¬p.At≥(d.bz.length:Int)by omega),ig h0 h1,List.getElem?_eq_getElem hlt]
 simp only[cond_true,cond_false,aw]
 rw[h2,hy]
 have hm:imax (jE (jE 32 ((32:Nat):Int)) ((32:Nat):Int)) 0=((32:Nat):Int):=by decide
 rw[hm,fE (by omega) (by omega) (by omega),qY]
 have hc:eD d.bz[p.At.toNat] ((32:Nat):Int) ((32:Nat):Int)=[]:=by
  unfold eD
  rw[List.drop_of_length_le (by rw[List.length_take];exact Nat.min_le_left _ _)]
 rw[hc,List.take_of_length_le (by omega),decide_eq_true (show p.B.length+([]:List UInt8).length≤dy by rw[h2,cw];simp),List.append_nil]
 rfl
theorem LG (o:aT) (t:aT) (L0:List (List UInt8)) (ws:List bJ) (d:aT) (hd: ∀x∈d.bz,x.length=32) (hw: ∀p∈ws,HY d.bz.length p) (hl:ws.length≤1000):
  ∃o',tV fuel ws (ws.length:Int) o 0 t ⟨d⟩=some (o',⟨⟨wr d.bz ws,d.bM,d.im,d.Down⟩⟩):=by
 unfold tV
 obtain⟨x,e,hx⟩:=dR (step:=tU ws (ws.length:Int) o) (fun k v=> ∃i:Nat,v.1=(i:Int)∧i+k=ws.length∧v.2.2=⟨⟨wr d.bz (ws.take i),d.bM,d.im,d.Down⟩⟩) (fun r=>r.2=⟨⟨wr d.bz ws,d.bM,d.im,d.Down⟩⟩) (fun k v hI=>by
  obtain⟨v1,v2,v3⟩:=v
  obtain⟨i,h1,hk,h2⟩:=hI
  simp only at h1 h2
  subst h1 h2
  simp only[tU,sh,get_ite,aE,aD,aC,aF,aL,aK]
  by_cases hlt:i<ws.length
  ·rw[da hlt,bP hlt,Int.toNat_natCast,List.getElem?_eq_getElem hlt]
   simp only[cond_true,aw]
   rw[S0 ws[i] _ (NW _ _ hd (fun p hp=>(hw p (List.mem_of_mem_take hp)).2.2)) (by show HY (wr d.bz (ws.take i)).length ws[i];rw[lA];exact hw _ (List.getElem_mem hlt)),aw,bG (by omega)]
   refine⟨_,rfl,k-1,by omega,i+1,rfl,by omega,?_⟩
   rw[List.take_add_one,List.getElem?_eq_getElem hlt,UG]
   rfl
  ·obtain rfl:i=ws.length:=by omega
   rw[db]
   exact⟨_,rfl,by rw[List.take_length];rfl⟩) ws.length (0,t,⟨d⟩) fuel ⟨0,rfl,by omega,rfl⟩ (cr (by omega))
 exact⟨x.1,by rw[e,←hx]⟩
theorem Qg (d:aT) (hd:Hr d) (hdn:d.Down=false):wq fuel d=some (bK d,true):=by
 unfold wq wm
 try simp only[get_ite,aE,aD,aC,aF,aL,aK]
 rw[hdn]
 obtain⟨o',e⟩:=LG d (aT.mk [] [] 0 false) d.bz d.bM d hd.last hd.wait hd.adH
 simp only[cond_false]
 rw[e,aw]
 unfold bK
 rw[hdn]
theorem mI {d:aT} (hd:Hr d):Hr (bK d):=by
 refine⟨NW _ _ hd.last (fun p hp=>(hd.wait p hp).2.2),by show(wr d.bz d.bM).length≤1000;rw[lA];exact hd.len,(fun p hp=>nomatch hp),by show(0:Nat)≤1000;omega,hd.a0,hd.a1⟩
theorem yY (d:aT) (hd:Hr d) (hdn:d.Down=false):eT fuel ⟨d⟩=some (.inl ⟨bK d⟩):=by
 unfold eT lJ
 try simp only[get_ite,aE,aD,aC,aF,aL,aK]
 rw[Qg d hd hdn,aw]
 rfl
def dz (d:aT):List bJ→aT×Bool
 |[]=>(d,true)
 |p::r=>bif (dF d p).Down then(dF d p,false)else dz (dF d p) r
theorem yX: ∀(ws:List bJ) (d:aT),d.Down=false→0≤d.im→(d.im=0∨(ws.length:Int)<d.im)→dz d ws=(⟨d.bz,d.bM++ws,if d.im=0 then 0 else d.im-ws.length,false⟩,true)
 |[],d,hdn,h0,_=>by
  obtain⟨L,W,A,D⟩:=d
  simp only at hdn h0
  subst hdn
  unfold dz
  simp only[List.append_nil,List.length_nil]
  by_cases hA:A=0
  ·rw[if_pos hA,hA]
  ·rw[if_neg hA];simp
 |p::r,d,hdn,h0,h=>by
  rw[List.length_cons]at h
  have hnd:(dF d p).Down=false:=by
   unfold dF
   by_cases ha:d.im>0
   ·rw[if_pos ha];show(d.im-1==0)=false;exact di (by omega)
   ·rw[if_neg ha];exact hdn
  have harm:(dF d p).im=if d.im=0 then 0 else d.im-1:=by
   unfold dF
   by_cases ha:d.im>0
   ·rw[if_pos ha,if_neg (by omega)]
   ·rw[if_neg ha,if_pos (by omega)];show d.im=0;omega
  rw[dz,hnd,cond_false,yX r _ hnd (by rw[harm];split<;>omega) (by rw[harm];split<;>omega),fQ,qR,harm,List.append_assoc,List.length_cons]
  congr 2
  split
  ·simp
  ·rw[if_neg (by omega)];omega
theorem CH: ∀(ws:List bJ) (d:aT),d.Down=false→1≤d.im→d.im≤(ws.length:Int)→dz d ws=(⟨d.bz,d.bM++ws.take d.im.toNat,0,true⟩,false)
 |[],d,_,h1,h2=>by simp at h2;omega
 |p::r,d,hdn,h1,h2=>by
  rw[List.length_cons]at h2
  rw[dz]
  by_cases ha:d.im=1
  ·have:dF d p=⟨d.bz,d.bM++[p],0,true⟩:=by unfold dF;rw[if_pos (by omega),ha];rfl
   rw[this,ha]
   rfl
  ·have hw:dF d p=⟨d.bz,d.bM++[p],d.im-1,false⟩:=by
    unfold dF;rw[if_pos (by omega)]
    congr 1
    exact di (by omega)
   rw[hw,cond_false,CH r _ rfl (by show 1≤d.im-1;omega) (by show d.im-1≤_;omega)]
   show(aT.mk d.bz (d.bM++[p]++r.take (d.im-1).toNat) 0 true,false)=_
   rw[List.append_assoc,show d.im.toNat=(d.im-1).toNat+1 by omega]
   rfl
theorem Ab: ∀(ws:List bJ) (d:aT),d.Down=false→((dz d ws).2=true∧(dz d ws).1.Down=false)∨((dz d ws).2=false∧(dz d ws).1.Down=true)
 |[],d,h=> .inl ⟨rfl,h⟩
 |p::r,d,h=>by
  rw[dz]
  cases hp:(dF d p).Down with
  |true=>exact .inr ⟨rfl,hp⟩
  |false=>exact Ab r _ hp
theorem w6: ∀(ws:List bJ) (d:aT),Hr d→d.bM.length+ws.length≤1000→(∀p∈ws,HY d.bz.length p)→Hr (dz d ws).1
 |[],d,h,_,_=>h
 |p::r,d,h,hl,hp=>by
  rw[List.length_cons]at hl
  have h1:=uQ h (by omega) (hp p (List.mem_cons_self ..))
  rw[dz]
  cases (dF d p).Down with
  |true=>exact h1
  |false=>exact w6 r _ h1 (by rw[qR];simp;omega) (fun q hq=>by rw[fQ];exact hp q (List.mem_cons_of_mem _ hq))
end Go.Proofs.YtlejgahbbfeagaaGreatDoor.N
