/- slices.Repeat of one text. Rows of one's own cut short, and made longer, by the library. -/
import Derived.Test.YtlejgahbbfeagaaGreatDoorSeat1
import Derived.Test.YtlejgahbbfeagaaGreatDoorBase6
import Derived.Test.YtlejgahbbfeagaaGreatDoorSeat2
import Derived.WalkKit
import Derived.OwnWalk
import Derived.Laws.CopyOwn
import Derived.Deep.RegionLaw
import Derived.Shelf.Spec.SlicesInsert
import Derived.Laws.Externs
set_option linter.unusedVariables false
namespace Go.Proofs.YtlejgahbbfeagaaGreatDoor.V
open Go Go.RowKit Go.Proofs Go.Proofs.YtlejgahbbfeagaaGreatDoor.D
theorem UJ:(Tryz.prog.info? 9).map (fun i=>(i.zero,i.size,i.bytes))=some (some (.string ⟨#[]⟩),1,16):=by kernel_rfl
theorem PR:(Tryz.prog.info? 9).map (·.size)=some 1:=by kernel_rfl
theorem LK {α:Type} (X Z:α) (k r c:Nat) (hc:c≤r):splice (List.replicate k X++List.replicate r Z) k (List.replicate c X)=List.replicate (k+c) X++List.replicate (r-c) Z:=by
 unfold splice
 rw[List.take_left' (List.length_replicate),List.length_replicate,List.drop_append,List.drop_eq_nil_of_le (by simp),List.length_replicate,List.nil_append,show k+c-k=c by omega,List.drop_replicate,←List.append_assoc,List.replicate_append_replicate]
theorem UF (m:Nat) (hm:m≤64) (hMul: ∀w,Calls Tryz.prog 278 #[.int .u64 1,.int .u64 (m:Int)] w fun e w'=>e= .returned (.tuple #[.int .u64 0,.int .u64 (m:Int)])∧Below w.heap.size w w') (w:World):
  Calls Tryz.prog 223 #[.int .u64 1,.int .u64 (m:Int)] w fun e w'=>e= .returned (.tuple #[.int .u64 0,.int .u64 (m:Int)])∧Below w.heap.size w w':=by
 go_enter Tryz.func223,Tryz.ntmps223
 go_wp2_with (go_at_call 278;refine(hMul _).mono ?_;rintro e w' ⟨rfl,hB⟩)
 go_ret2
 exact⟨rfl,hB⟩
theorem Um (w:World) (base e m g:Nat) (z:Value) (h:w.ownsRow base e 1 (.slice (some ⟨g,0,none⟩) m m) m (madeCells #[z] (m*1)).toList) (hm:1≤m):
  base≤g∧w.heap[g]? =some (.cells (List.replicate m z).toArray e (0,0)):=by
 obtain⟨_,⟨h1,h2⟩|⟨g',cap,cur,hv,hb,hg,hc1,hc2,hs,ht⟩⟩:=h
 ·omega
 ·simp only[Value.slice.injEq,Option.some.injEq,Addr.mk.injEq]at hv
  obtain⟨⟨rfl,_⟩,_,rfl⟩:=hv
  refine⟨hb,?_⟩
  have hl:cur.toList.length=m:=by rw[Array.length_toList,hs];omega
  rw[List.take_of_length_le (by omega)]at ht
  have:cur=(List.replicate m z).toArray:=by
   apply Array.ext'
   rw[ht]
   simp only[madeCells,Array.toList_map,Array.toList_range,Nat.mul_one]
   apply List.ext_getElem
   ·simp
   ·intro j h1 h2
    simp[Nat.mod_one]
  rw[hg,this]
set_option maxRecDepth 100000 in
set_option maxHeartbeats 4000000 in
theorem Oi (m:Nat) (hm1:1≤m) (hm:m≤64) (hMul: ∀w,Calls Tryz.prog 278 #[.int .u64 1,.int .u64 (m:Int)] w fun e w'=>e= .returned (.tuple #[.int .u64 0,.int .u64 (m:Int)])∧Below w.heap.size w w')
  (xb xo xc:Nat) (x:ByteArray) (w:World) (hx:w.cell? ⟨xb,xo,none⟩=some (.string x)) (hxb:xb<w.heap.size):
  Calls Tryz.prog 158 #[.slice (some ⟨xb,xo,none⟩) 1 xc,.int .i64 (m:Int)] w fun e w'=> ∃g,e= .returned (.slice (some ⟨g,0,none⟩) m m)∧w.heap.size≤g∧w'.heap[g]? =some (.cells (List.replicate m (Value.string x)).toArray 9 (0,0))∧Below w.heap.size w w':=by
 obtain⟨i0,hi,hz0,hz1,hz2⟩:=info_parts UJ
 go_enter Tryz.func158,Tryz.ntmps158
 go_wp2_with (first
  |(go_at_call 223;refine(UF m hm hMul _).mono ?_;rintro e w1 ⟨rfl,hB1⟩)
  |(at_make;refine wpList_make_full _ rfl _ _ 24 rfl w.heap.size 9 i0 (.string ⟨#[]⟩) 1 Tryz.underlying24 hi hz0 hz1 .i64 .i64 _ _ m rfl rfl rfl rfl (by rw[hz2];omega) (by unfold maxLen;omega) hB1.size ?_;intro w2 hown0 hgrow0;have hrow0:=Um _ _ _ _ _ _ hown0 hm1;have hB2:=hB1.grown hgrow0 hB1.size (by simp)))
 have hx2:w2.cell? ⟨xb,xo,none⟩=some (.string x):=(hB2.cell (p:=⟨xb,xo,none⟩) hxb).trans hx
 rw[run_copy_row (P:=Tryz.prog) w2 24 24 3 9 w1.heap.size 0 m m ⟨xb,xo,none⟩ 1 xc (List.replicate m (.string ⟨#[]⟩)).toArray 9 [.string x] Tryz.underlying24 PR hrow0.2 (by simp[Nat.min_eq_left hm1]) (by
  intro j v hj
  cases j with
  |zero=>simp only[List.getElem?_cons_zero,Option.some.injEq]at hj;subst hj;simpa [Addr.add]using hx2
  |succ j=>simp at hj) (by simp;omega) (by simp[Value.oneCell'])]
 obtain⟨W3,hW3,hr3,hB3⟩: ∃W3,w2.setRow w1.heap.size (((List.replicate m (Value.string ⟨#[]⟩)).toArray.toList.take 0++[Value.string x]++(List.replicate m (Value.string ⟨#[]⟩)).toArray.toList.drop (0+[Value.string x].length)).toArray)=W3∧W3.heap[w1.heap.size]? =some (.cells (List.replicate 1 (Value.string x)++List.replicate (m-1) (Value.string ⟨#[]⟩)).toArray 9 (0,0))∧Below w.heap.size w W3:=by
  refine⟨_,rfl,?_,below_setRow hB2 hB1.size _⟩
  rw[setRow_heap _ _ _ _ _ _ hrow0.2]
  simp
 rw[hW3]
 clear hW3 hown0 hgrow0
 obtain⟨G,hG⟩: ∃G,w1.heap.size=G:=⟨_,rfl⟩
 have hBG:w.heap.size≤G:=by rw[←hG];exact hB1.size
 rw[hG]at hr3⊢
 clear hrow0 hG
 go_wp2
 go_loopw [8] (fun i wr=> ∃k:Nat,1≤k∧k≤m∧i= .int .i64 (k:Int)∧wr.heap[G]? =some (.cells (List.replicate k (Value.string x)++List.replicate (m-k) (Value.string ⟨#[]⟩)).toArray 9 (0,0))∧Below w.heap.size w wr)
  (fun i _=>m-(intOf i).toNat)
 case atStart=>exact⟨1,Nat.le_refl _,hm1,rfl,hr3,hB3⟩
 case round=>
  obtain⟨k,hk1,hkm,rfl,hrk,hBk⟩:=hrel
  by_cases hlt:k<m
  ·have hrk':wr.drew.heap[G]? =some (.cells (List.replicate k (Value.string x)++List.replicate (m-k) (Value.string ⟨#[]⟩)).toArray 9 (0,0)):=hrk
   have hBk':Below w.heap.size w wr.drew:=hBk.trans ⟨rfl,rfl,rfl,Nat.le_refl _,fun _ _=>rfl⟩
   have hsrc: ∀j v,(List.replicate (min k (m-k)) (Value.string x))[j]? =some v→wr.drew.cell? ((⟨G,0,none⟩:Addr).add j)=some v:=by
    intro j v hj
    have hjm:j<min k (m-k):=by
     have:=(List.getElem?_eq_some_iff.1 hj).1
     simpa using this
    rw[List.getElem?_replicate,if_pos hjm]at hj
    cases hj
    have hjk:j<k:=by omega
    have hadd:(⟨G,0,none⟩:Addr).add j=⟨G,j,none⟩:=by unfold Addr.add;split<;>simp_all
    rw[hadd]
    simp[World.cell?,hrk',List.getElem?_append,hjk]
   obtain⟨c,hc⟩: ∃c,min k (m-k)=c:=⟨_,rfl⟩
   have hc1:c≤k:=by omega
   have hc2:c≤m-k:=by omega
   have hc3:0<c:=by omega
   have hc4:k.min (m-k)=c:=hc
   rw[hc]at hsrc
   have hkc:k+c≤m:=by omega
   have hne1: ¬k=m:=by omega
   have hne2: ¬m=k:=by omega
   have hne3: ¬m-k=0:=by omega
   go_wp2
   go_region_law (refine step_copy_splice rfl (.tmp 41) (.tmp 44) 24 24 rfl 9 Tryz.underlying24 PR (some ⟨G,k,none⟩) (some ⟨G,0,none⟩) (m-k) (m-k) k m (by simp[Act.eval,Act.put]) (by simp[Act.eval,Act.put]) G k (List.replicate k (Value.string x)++List.replicate (m-k) (Value.string ⟨#[]⟩)) 9 hrk' (List.replicate c (Value.string x)) (by simpa using hc4.symm) (fun _=>⟨rfl,_,rfl,hsrc⟩) (by simp;omega) (by intro v hv;rw[List.eq_of_mem_replicate hv];rfl) w.heap.size w hBk' hBG ?_;intro W4 hr4 hB4)
   have hwr:IntKind.i64.wrap ((k:Int)+(c:Int))=((k+c:Nat):Int):=by simp[IntKind.wrap,IntKind.signed,IntKind.bits];omega
   go_simp
   go_wp2
   go_roundw
   case rel=>exact⟨k+c,by omega,hkc,by simp,by rw[hr4.out,LK _ _ _ _ _ hc2,show m-k-c=m-(k+c)by omega],hB4⟩
   case measure=>simp[intOf];omega
  ·obtain rfl:m=k:=by omega
   go_wp2
   go_ret
   exact⟨G,rfl,hBG,by simpa using hrk,hBk⟩
theorem OH {F:List (az E.T)→Tree (iR E.T)} (hM6:Jm Tryz.prog E 278 F) (hF: ∀m:Nat,(F [.val (.int .u64) (1:Int),.val (.int .u64) (m:Int)]).get=some (.ret [.val (.int .u64) (N.fP 1 (m:Int)).1,.val (.int .u64) (N.fP 1 (m:Int)).2])) (m:Nat) (hm:m≤64) (w:World):
  Calls Tryz.prog 278 #[.int .u64 1,.int .u64 (m:Int)] w fun e w'=>e= .returned (.tuple #[.int .u64 0,.int .u64 (m:Int)])∧Below w.heap.size w w':=by
 have hst:=Ez (E:=E) (σ:={f:=fun _=> .tuple #[],m:=fun _=>False}) (w:=w) (M:=fun _=>False) (fun b hb=>hb.elim)
 have hall:(List.range 65).all (fun k=>N.fP 1 (k:Int)==((0:Int),(k:Int)))=true:=by decide+kernel
 have hmm:N.fP 1 (m:Int)=(0,(m:Int)):=by
  have:=List.all_eq_true.1 hall m (by simp;omega)
  simpa using this
 have hr:=hM6 (σ:={f:=fun _=> .tuple #[],m:=fun _=>False}) (w:=w) (ds:=[.val (.int .u64) (1:Int),.val (.int .u64) (m:Int)]) (us:=[.int .u64 1,.int .u64 (m:Int)]) (r:= .ret [.val (.int .u64) (N.fP 1 (m:Int)).1,.val (.int .u64) (N.fP 1 (m:Int)).2]) hst
  (.cons _ _ _ _ (.data (.int .u64) _ _ (.val _ _ _ (.int .u64 (1:Int)))) (.cons _ _ _ _ (.data (.int .u64) _ _ (.val _ _ _ (.int .u64 (m:Int)))) .nil)) (hF m)
 refine hr.mono fun e w' hb=> ?_
 obtain⟨σ',mf,hres⟩:=hb
 cases e with
 |returned v=>
  have h:aZ E σ' ([]:St E.T) w' (MB σ' ([]:St E.T)) (.jk [.val (.int .u64) (N.fP 1 (m:Int)).1,.val (.int .u64) (N.fP 1 (m:Int)).2]) v:=hres
  rw[hmm]at h
  generalize hd:az.jk [az.val (T:=E.T) (.int .u64) (0:Int),.val (.int .u64) (m:Int)]=d at h
  cases h with
  |jk vs us h=>
   cases hd
   cases h with
   |cons a r u us ha h=>
    cases h with
    |cons b r u us hb h=>
     cases h
     rw[jd ha,jd hb]
     exact⟨rfl,⟨mf.aH.os,mf.aH.tape,mf.aH.output,mf.aH.size,fun b hb=>mf.aH.block b hb (fun h=>AO.1 h)⟩⟩
  |data t d cs h=>subst hd;cases h
  |_=>cases hd
 |_=>exact hres.elim
theorem P0 {α:Type} (x:α) (m:Nat):N.pI [x] (m:Int)=List.replicate m x:=by simp[N.pI]
def P1:List (az E.T)→Tree (iR E.T)
 |[.val (.slice .str) l,.val (.int .i64) n]=> .ite (N.Ij (α:=List UInt8) l n) (.ret (.ret [.val (.slice .str) (N.pI (α:=List UInt8) l n)])) .fail
 |_=> .fail
theorem RW (hM: ∀m:Nat,m≤64→ ∀w,Calls Tryz.prog 278 #[.int .u64 1,.int .u64 (m:Int)] w fun e w'=>e= .returned (.tuple #[.int .u64 0,.int .u64 (m:Int)])∧Below w.heap.size w w'):nQ Tryz.prog E 158 (.pure [.slice .str,.int .i64] P1):=by
 refine⟨Tryz.call158,fun{σ w ds us r} hst hds hr=> ?_⟩
 unfold P1 at hr
 split at hr
 ·rename_i l n
  simp only[Tree.get]at hr
  cases hk:N.Ij (α:=List UInt8) l n with
  |false=>rw[hk]at hr;cases hr
  |true=>
   rw[hk]at hr
   cases hr
   unfold N.Ij at hk
   rw[Bool.and_eq_true,Bool.and_eq_true]at hk
   obtain⟨h1,h2,h3⟩:=hk
   have h1:=of_decide_eq_true h1
   have h2:(1:Int)≤n:=of_decide_eq_true h2
   have h3:n≤(64:Int):=of_decide_eq_true h3
   obtain⟨m,rfl⟩: ∃m:Nat,n=(m:Int):=⟨Int.toNat n,(Int.toNat_of_nonneg (Int.le_trans (by decide) h2)).symm⟩
   have h2n:1≤m:=Int.ofNat_le.1 h2
   have h3n:m≤64:=Int.ofNat_le.1 h3
   cases hds with
   |cons v r u us hv h2'=>
    cases h2' with
    |cons v r u2 us he h3'=>
     cases h3'
     obtain rfl:=jd he
     cases hv with
     |data t d cs hvt=>
     cases hvt with
     |val t x cs hc=>
     cases hc with
     |slice e' xs a cap cs hl hm hn hcap=>
     obtain⟨bs,hbs,hcs,hsz⟩:=zD hl
     match bs,hbs,hcs,hsz with
     |[],hbs,_,_=>rw[←hbs]at h1;cases h1
     |y::z::r,hbs,_,_=>rw[←hbs]at h1;simp at h1
     |[y],hbs,hcs,hsz=>
     have hl1:l=[y.data.toList]:=by rw[←hbs];rfl
     rcases hm with h|⟨bk,off,rfl,_,hlt,hcell⟩
     ·rw[h]at h1;cases h1
     have hy:w.cell? ⟨bk,off,none⟩=some (.string y):=by
      have:=hcell 0 (.string y) (by rw[hcs];rfl)
      simpa using this
     have hc:=Oi m h2n h3n (hM m h3n) bk off cap y w hy hlt
     show Calls Tryz.prog 158 #[.slice (some ⟨bk,off,none⟩) l.length cap,.int .i64 (m:Int)] w _
     rw[h1]
     refine hc.mono fun en w' ⟨g,he',hg,hh,hbel⟩=>⟨σ,ym hst hbel,?_⟩
     rw[he']
     show aZ E σ [] w' (MB σ ([]:St E.T)) (.val (.slice .str) (N.pI l (m:Int))) _
     have hrep:N.pI l (m:Int)=List.replicate m y.data.toList:=by
      rw[hl1,P0]
     rw[hrep]
     have hlr:bD E w' (MB σ ([]:St E.T)) .str (List.replicate m y.data.toList) (List.replicate m (Value.string y)):=by
      have:=EO (E:=E) (w:=w') (M:=MB σ ([]:St E.T)) (List.replicate m y.data.toList) (fun s hs=>by
       rw[List.eq_of_mem_replicate hs]
       have:=hsz y (List.mem_singleton.2 rfl)
       rw[Array.length_toList]
       exact this)
      rw[List.map_replicate]at this
      exact this
     have:=cx.slice (E:=E) (w:=w') (M:=MB σ ([]:St E.T)) .str (List.replicate m y.data.toList) (some ⟨g,0,none⟩) m _ hlr (.inr ⟨g,0,rfl,(fun hb=>by
      have:g<w.heap.size:=by
       rcases hb with hb|⟨o,ob,ho,_⟩
       ·exact hst.qh g hb
       ·cases ho
      omega),(Array.getElem?_eq_some_iff.1 hh).1,(fun j u hj=>by
      rw[Nat.zero_add]
      unfold World.cell?
      rw[hh]
      simpa [List.getElem?_replicate,Array.getElem?_replicate]using hj)⟩) (by rw[List.length_replicate];unfold dK;omega) (by rw[List.length_replicate];exact Nat.le_refl _)
     rw[List.length_replicate]at this
     exact .data _ _ _ (.val _ _ _ this)
 ·cases hr
set_option maxRecDepth 100000
open Go Go.RowKit Go.Shelf Go.Lib Go.Proofs Go.Proofs.YtlejgahbbfeagaaGreatDoor.D
set_option maxHeartbeats 4000000 in
theorem N9 (g nn cap i:Nat) (w w':World) (u1 u2 u3 u4 u6 u7 u8 u9 u10 u11 u12 u13 u14 u15 u16 u17 u18 u19 u20 u21 u22 u23 u24 u25 u26 u27 u28 u29 u30 u31 u32 u33 u34 u35 u36 u37 u38 u39 u40 u41:Value) (hi:i<nn) (hc:nn≤cap) (hcl: ∀ty cc,(Builtin.clear_ #[34] ty #[.slice (some ⟨g,i*4,none⟩) (nn-i) cc]).run Tryz.prog w= .ok (.tuple #[]) w') (R:Ending→World→Prop) (hR:R (.returned (.slice (some ⟨g,0,none⟩) i cap)) w'):
  (kP 4 (tr Tryz.f272)).wp Tryz.prog (bodyPostD Tryz.prog Tryz.f272 R) {tmps:= #[.slice (some ⟨g,0,none⟩) nn cap,u1,u2,u3,u4,.int .i64 (i:Int),u6,u7,u8,u9,u10,u11,u12,u13,u14,u15,u16,u17,u18,u19,u20,u21,u22,u23,u24,u25,u26,u27,u28,u29,u30,u31,u32,u33,u34,u35,u36,u37,u38,u39,u40,u41],defers:=[]} w:=by
 have h1:i≤nn:=by omega
 have h2: ¬(cap=i):=by omega
 have h3:i≤cap:=by omega
 have h4:(i:Int)≤(cap:Int):=by omega
 have h5:(i:Int)≤(nn:Int):=by omega
 dsimp only[tr,Tryz.f272,kP]
 go_wp2
 refine⟨_,results_tmp rfl _ _ _,?_⟩
 exact hR
theorem M9:M3 Tryz.prog Tryz.f272 4 34 4:=by
 intro a w w' g nn cap i R hd hs h0 h5 hi hc hcl hR
 have hs':a.tmps.toList.length=42:=by rw[Array.length_toList];exact hs.trans Tryz.ntmps272
 have ht:=IJ a.tmps.toList hs'
 have q0:a.tmps.toList.getD 0 undef= .slice (some ⟨g,0,none⟩) nn cap:=by rw[List.getD_eq_getElem?_getD,Array.getElem?_toList,h0];rfl
 have q5:a.tmps.toList.getD 5 undef= .int .i64 (i:Int):=by rw[List.getD_eq_getElem?_getD,Array.getElem?_toList,h5];rfl
 have:=N9 g nn cap i w w' (a.tmps.toList.getD 1 undef) (a.tmps.toList.getD 2 undef) (a.tmps.toList.getD 3 undef) (a.tmps.toList.getD 4 undef) (a.tmps.toList.getD 6 undef) (a.tmps.toList.getD 7 undef) (a.tmps.toList.getD 8 undef) (a.tmps.toList.getD 9 undef) (a.tmps.toList.getD 10 undef) (a.tmps.toList.getD 11 undef) (a.tmps.toList.getD 12 undef) (a.tmps.toList.getD 13 undef) (a.tmps.toList.getD 14 undef) (a.tmps.toList.getD 15 undef) (a.tmps.toList.getD 16 undef) (a.tmps.toList.getD 17 undef) (a.tmps.toList.getD 18 undef) (a.tmps.toList.getD 19 undef) (a.tmps.toList.getD 20 undef) (a.tmps.toList.getD 21 undef) (a.tmps.toList.getD 22 undef) (a.tmps.toList.getD 23 undef) (a.tmps.toList.getD 24 undef) (a.tmps.toList.getD 25 undef) (a.tmps.toList.getD 26 undef) (a.tmps.toList.getD 27 undef) (a.tmps.toList.getD 28 undef) (a.tmps.toList.getD 29 undef) (a.tmps.toList.getD 30 undef) (a.tmps.toList.getD 31 undef) (a.tmps.toList.getD 32 undef) (a.tmps.toList.getD 33 undef) (a.tmps.toList.getD 34 undef) (a.tmps.toList.getD 35 undef) (a.tmps.toList.getD 36 undef) (a.tmps.toList.getD 37 undef) (a.tmps.toList.getD 38 undef) (a.tmps.toList.getD 39 undef) (a.tmps.toList.getD 40 undef) (a.tmps.toList.getD 41 undef) hi hc hcl R hR
 have ha:a={tmps:=((List.range 42).map fun i=>a.tmps.toList.getD i undef).toArray,defers:=[]}:=by
  rw[←ht,←hd]
 rw[ha]
 rw[←q0,←q5]at this
 exact this
set_option maxHeartbeats 4000000 in
theorem Oa (g nn cap i:Nat) (w w':World) (u1 u2 u3 u4 u6 u7 u8 u9 u10 u11 u12 u13 u14 u15 u16 u17 u18 u19 u20 u21 u22 u23 u24 u25 u26 u27 u28 u29 u30 u31 u32 u33 u34 u35 u36 u37 u38 u39 u40 u41:Value) (hi:i<nn) (hc:nn≤cap) (hcl: ∀ty cc,(Builtin.clear_ #[35] ty #[.slice (some ⟨g,i*4,none⟩) (nn-i) cc]).run Tryz.prog w= .ok (.tuple #[]) w') (R:Ending→World→Prop) (hR:R (.returned (.slice (some ⟨g,0,none⟩) i cap)) w'):
  (kP 4 (tr Tryz.f260)).wp Tryz.prog (bodyPostD Tryz.prog Tryz.f260 R) {tmps:= #[.slice (some ⟨g,0,none⟩) nn cap,u1,u2,u3,u4,.int .i64 (i:Int),u6,u7,u8,u9,u10,u11,u12,u13,u14,u15,u16,u17,u18,u19,u20,u21,u22,u23,u24,u25,u26,u27,u28,u29,u30,u31,u32,u33,u34,u35,u36,u37,u38,u39,u40,u41],defers:=[]} w:=by
 have h1:i≤nn:=by omega
 have h2: ¬(cap=i):=by omega
 have h3:i≤cap:=by omega
 have h4:(i:Int)≤(cap:Int):=by omega
 have h5:(i:Int)≤(nn:Int):=by omega
 dsimp only[tr,Tryz.f260,kP]
 go_wp2
 refine⟨_,results_tmp rfl _ _ _,?_⟩
 exact hR
theorem RN:M3 Tryz.prog Tryz.f260 4 35 4:=by
 intro a w w' g nn cap i R hd hs h0 h5 hi hc hcl hR
 have hs':a.tmps.toList.length=42:=by rw[Array.length_toList];exact hs.trans Tryz.ntmps260
 have ht:=IJ a.tmps.toList hs'
 have q0:a.tmps.toList.getD 0 undef= .slice (some ⟨g,0,none⟩) nn cap:=by rw[List.getD_eq_getElem?_getD,Array.getElem?_toList,h0];rfl
 have q5:a.tmps.toList.getD 5 undef= .int .i64 (i:Int):=by rw[List.getD_eq_getElem?_getD,Array.getElem?_toList,h5];rfl
 have:=Oa g nn cap i w w' (a.tmps.toList.getD 1 undef) (a.tmps.toList.getD 2 undef) (a.tmps.toList.getD 3 undef) (a.tmps.toList.getD 4 undef) (a.tmps.toList.getD 6 undef) (a.tmps.toList.getD 7 undef) (a.tmps.toList.getD 8 undef) (a.tmps.toList.getD 9 undef) (a.tmps.toList.getD 10 undef) (a.tmps.toList.getD 11 undef) (a.tmps.toList.getD 12 undef) (a.tmps.toList.getD 13 undef) (a.tmps.toList.getD 14 undef) (a.tmps.toList.getD 15 undef) (a.tmps.toList.getD 16 undef) (a.tmps.toList.getD 17 undef) (a.tmps.toList.getD 18 undef) (a.tmps.toList.getD 19 undef) (a.tmps.toList.getD 20 undef) (a.tmps.toList.getD 21 undef) (a.tmps.toList.getD 22 undef) (a.tmps.toList.getD 23 undef) (a.tmps.toList.getD 24 undef) (a.tmps.toList.getD 25 undef) (a.tmps.toList.getD 26 undef) (a.tmps.toList.getD 27 undef) (a.tmps.toList.getD 28 undef) (a.tmps.toList.getD 29 undef) (a.tmps.toList.getD 30 undef) (a.tmps.toList.getD 31 undef) (a.tmps.toList.getD 32 undef) (a.tmps.toList.getD 33 undef) (a.tmps.toList.getD 34 undef) (a.tmps.toList.getD 35 undef) (a.tmps.toList.getD 36 undef) (a.tmps.toList.getD 37 undef) (a.tmps.toList.getD 38 undef) (a.tmps.toList.getD 39 undef) (a.tmps.toList.getD 40 undef) (a.tmps.toList.getD 41 undef) hi hc hcl R hR
 have ha:a={tmps:=((List.range 42).map fun i=>a.tmps.toList.getD i undef).toArray,defers:=[]}:=by
  rw[←ht,←hd]
 rw[ha]
 rw[←q0,←q5]at this
 exact this
theorem Iu (lb cb vc va:Nat) (w:World) (a b:Addr) (hne:a.block≠b.block) {cA cB:Array Value} {tA tB:TypeId} {fA fB:Nat×Nat}
  (ha:w.heap[a.block]? =some (.cells cA tA fA)) (hb:w.heap[b.block]? =some (.cells cB tB fB)) (hA:cA.size≠0) (hsa:a.spot=none) (hsb:b.spot=none) (hf: ∀q,w.frozen? ⟨b.block,q,none⟩=false):
  (callFunc 305 #[.slice (some a) va vc,.slice (some b) lb cb]).run Tryz.prog w= .ok (.value (.bool false)) w:=by
 obtain⟨i,hi,_⟩: ∃i,Tryz.prog.info? 72=some i∧True:=⟨Tryz.t72,by kernel_rfl,trivial⟩
 rw[run_callFunc_extern Tryz.func305 (by kernel_rfl) (by kernel_rfl) (by kernel_rfl) (e:=Extern.SlicesOverlaps.overlaps #[34,34] #[4]) (by kernel_rfl),
  Ih w 34 4 72 i Tryz.underlying34 hi a b va vc lb cb hne ha hb hA hsa hsb hf]
 rfl
set_option maxHeartbeats 4000000 in
set_option maxRecDepth 100000 in
theorem Ko (base:Option Addr) (n c vb voff vc:Nat) (hnc:n≤c) (w:World) (y:Value) (w':World) (hrun: ∀ty,(Builtin.append_ #[34,34] ty #[.slice base n c,.slice (some ⟨vb,voff,none⟩) 1 vc]).run Tryz.prog w= .ok y w'):
  Calls Tryz.prog 274 #[.slice base n c,.int .i64 n,.slice (some ⟨vb,voff,none⟩) 1 vc] w fun e w''=>e= .returned y∧w''=w':=by
 go_enter Tryz.func274,Tryz.ntmps274
 cases base with
 |none=>
  by_cases hc:c=n
  ·subst hc
   go_wp2_with (at_builtin;refine Lib.wpList_append_run _ rfl _ _ _ _ rfl _ _ rfl rfl _ _ (hrun _) ?_)
   all_goals (go_ret;exact⟨rfl,rfl⟩)
  ·go_wp2_with (at_builtin;refine Lib.wpList_append_run _ rfl _ _ _ _ rfl _ _ rfl rfl _ _ (hrun _) ?_)
   all_goals (go_ret;exact⟨rfl,rfl⟩)
 |some a=>
  obtain⟨ab,ao,asp⟩:=a
  go_wp2_with (at_builtin;refine Lib.wpList_append_run _ rfl _ _ _ _ rfl _ _ rfl rfl _ _ (hrun _) ?_)
  all_goals (go_ret;exact⟨rfl,rfl⟩)
set_option maxHeartbeats 4000000 in
theorem IT (g n c i vb voff vc:Nat) (hi:i<n) (hroom:n+1≤c) (hbig:n+1≤2147483648) (hvb:vb≠g) (w W1 W2:World) (k1 k2:Nat) {cA cB:Array Value} {tA tB:TypeId} {fA fB:Nat×Nat}
  (ha:w.heap[vb]? =some (.cells cA tA fA)) (hb:w.heap[g]? =some (.cells cB tB fB)) (hA:cA.size≠0) (hf: ∀q,w.frozen? ⟨g,q,none⟩=false)
  (hcp1: ∀ty dc sc,(Builtin.copy_ #[34,34] ty #[.slice (some ⟨g,(i+1)*4,none⟩) (n-i) dc,.slice (some ⟨g,i*4,none⟩) (n+1-i) sc]).run Tryz.prog w.drew= .ok (goInt k1) W1)
  (hcp2: ∀ty dc,(Builtin.copy_ #[34,34] ty #[.slice (some ⟨g,i*4,none⟩) (n+1-i) dc,.slice (some ⟨vb,voff,none⟩) 1 vc]).run Tryz.prog W1= .ok (goInt k2) W2):
  Calls Tryz.prog 274 #[.slice (some ⟨g,0,none⟩) n c,.int .i64 i,.slice (some ⟨vb,voff,none⟩) 1 vc] w fun e w'=>e= .returned (.slice (some ⟨g,0,none⟩) (n+1) c)∧w'=W2:=by
 have hz2: ¬((i:Int)=(n:Int)):=by omega
 have hw1:IntKind.i64.wrap ((i:Int)+1)=(i:Int)+1:=by rw[IntKind.wrap_i64];omega
 have hw2:IntKind.i64.wrap ((n:Int)+1)=(n:Int)+1:=by rw[IntKind.wrap_i64];omega
 have hov: ∀lb cb,(callFunc 305 #[.slice (some ⟨vb,voff,none⟩) 1 vc,.slice (some ⟨g,(i+1)*4,none⟩) lb cb]).run Tryz.prog w= .ok (.value (.bool false)) w:=fun lb cb=>
  Iu lb cb vc 1 w ⟨vb,voff,none⟩ ⟨g,(i+1)*4,none⟩ hvb ha hb hA rfl rfl hf
 have hin:i≤n:=by omega
 have hb1:(0:Int)≤(i:Int)+1:=by omega
 have hb3:(i:Int)≤(n:Int)+1:=by omega
 have htn:((i:Int)+1).toNat=i+1:=by omega
 have htn2:((n:Int)+1).toNat=n+1:=by omega
 have hb2: ¬(c=i+1):=by omega
 have hb4: ¬(c=i):=by omega
 have mixed:=mix
 go_enter Tryz.func274,Tryz.ntmps274
 go_wp2_with (simp only[hov])
 go_region_law_o (refine step_copy_runI rfl _ _ 34 34 rfl _ _ (by simp[Act.eval,Act.put]) (by simp[Act.eval,Act.put]) (hcp1 _ _ _) ?_)
 go_wp2_with (at_builtin;refine wpList_copy_runI _ rfl _ _ 34 34 rfl _ _ rfl rfl (hcp2 _ _) ?_)
 go_ret
 exact⟨rfl,rfl⟩
set_option maxHeartbeats 4000000 in
theorem IU (g G n c cp i vb voff vc:Nat) (hi:i<n) (hnc:n≤c) (hroom:c<n+1) (hbig:n+1≤2147483648) (hcp:n+1≤cp) (w W0 W1 W2:World) (k1 k2:Nat)
  (hap: ∀ty,(Builtin.append_ #[34,3] ty #[.slice (some ⟨g,0,none⟩) i c,.int .i64 ((n:Int)+1-(i:Int))]).run Tryz.prog w= .ok (.slice (some ⟨G,0,none⟩) (n+1) cp) W0)
  (hcp1: ∀ty dc,(Builtin.copy_ #[34,34] ty #[.slice (some ⟨G,i*4,none⟩) (n+1-i) dc,.slice (some ⟨vb,voff,none⟩) 1 vc]).run Tryz.prog W0= .ok (goInt k1) W1)
  (hcp2: ∀ty dc sc,(Builtin.copy_ #[34,34] ty #[.slice (some ⟨G,(i+1)*4,none⟩) (n-i) dc,.slice (some ⟨g,i*4,none⟩) (n-i) sc]).run Tryz.prog W1.drew= .ok (goInt k2) W2):
  Calls Tryz.prog 274 #[.slice (some ⟨g,0,none⟩) n c,.int .i64 i,.slice (some ⟨vb,voff,none⟩) 1 vc] w fun e w'=>e= .returned (.slice (some ⟨G,0,none⟩) (n+1) cp)∧w'=W2:=by
 have hz2: ¬((i:Int)=(n:Int)):=by omega
 have hz3:(c:Int)<(n:Int)+1:=by omega
 have hw1:IntKind.i64.wrap ((i:Int)+1)=(i:Int)+1:=by rw[IntKind.wrap_i64];omega
 have hw2:IntKind.i64.wrap ((n:Int)+1)=(n:Int)+1:=by rw[IntKind.wrap_i64];omega
 have hw3:IntKind.i64.wrap ((n:Int)+1-(i:Int))=(n:Int)+1-(i:Int):=by rw[IntKind.wrap_i64];omega
 have hin:i≤n:=by omega
 have hb1:(0:Int)≤(i:Int)+1:=by omega
 have hb3:(i:Int)≤(n:Int)+1:=by omega
 have htn:((i:Int)+1).toNat=i+1:=by omega
 have hb2: ¬(cp=i+1):=by omega
 have hb4: ¬(cp=i):=by omega
 have hci: ¬(c=i):=by omega
 have mixed:=mix
 go_enter Tryz.func274,Tryz.ntmps274
 go_wp2_with (first
  |(at_builtin;refine Lib.wpList_append_run _ rfl _ _ _ _ rfl _ _ rfl rfl _ _ (hap _) ?_)
  |(at_builtin;refine wpList_copy_runI _ rfl _ _ 34 34 rfl _ _ rfl rfl (hcp1 _ _) ?_))
 go_region_law_o (refine step_copy_runI rfl _ _ 34 34 rfl _ _ (by simp[Act.eval,Act.put]) (by simp[Act.eval,Act.put]) (hcp2 _ _ _) ?_)
 go_wp2
 go_ret
 exact⟨rfl,rfl⟩
end Go.Proofs.YtlejgahbbfeagaaGreatDoor.V
