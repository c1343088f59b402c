/- The nice functions: what the program's functions come to. -/
import Derived.Test.YtlejgahbbfeagaaGreatDoorBase5
set_option linter.unusedVariables false
set_option maxRecDepth 10000
namespace Go.Proofs.YtlejgahbbfeagaaGreatDoor.N
open Go.Proofs.YtlejgahbbfeagaaGreatDoor.D (Tree TT ba)
noncomputable section
variable (n_:Nat)
def FP (n:Int):Tree (List bC):=
 .ite (decide (n<1)) (.ret ([]))
 (.ite (ZC n n) (.ret (List.replicate n.toNat (bC.mk 0 0 0 0))) .fail)
def Rh:=fun n=>(FP n).get
def DR:Tree aI:=
 .opt (Rh 3) fun r_1=>
 .ret (aI.mk [(bL.mk [] 0 []),(bL.mk [] 0 []),(bL.mk [] 0 []),(bL.mk [] 0 []),(bL.mk [] 0 []),(bL.mk [] 0 [])] r_1 0)
def Hy:=(DR).get
def rp (v:Int):TT Bool:=
 .ite (decide (v≥0)) (.ret (decide (v≤1073741824)))
 (.ret false)
def fe:=fun v=>(rp v).val
def s7 (name:List UInt8) (t7:Int) (r0:List UInt8) (v_:Int):Tree (Int ⊕ (Unit ⊕ Unit)):=
 .ite (decide (v_<t7)) (.ite (cL v_ r0.length) (.opt (r0[v_.toNat]?) fun y_1=>
  .ite (decide ((i8 y_1)<33)) (.ret (.inr (.inl ())))
  (.ite (decide ((i8 y_1)>126)) (.ret (.inr (.inl ())))
  (.ret (.inl (ay (v_+1)))))) .fail)
 (.ret (.inr (.inr ())))
def A5:=fun name t7 r0 v_=>(s7 name t7 r0 v_).get
def A6:=fun name t7 r0 t8=>iter (A5 name t7 r0) n_ t8
def Du (name:List UInt8):Tree Bool:=
 .opt (A6 n_ name (name.length:Int) name 0) fun r_1=>
 ba r_1 (fun a_2=>
 .ret false) fun b_3=>
 .ite (decide ((name.length:Int)≥1)) (.ret (decide ((name.length:Int)≤8)))
 (.ret false)
def zk:=fun name=>(Du n_ name).get
def pT (f:bL):Tree Bool:=
 .ite (f.Name==[]) (.ret (bL.ee f (bL.mk [] 0 [])))
 (.opt (zk n_ f.Name) fun r_1=>
 .ite r_1 (.ite (decide (f.qo≥1)) (.ite (fe f.qo) (.ret (decide ((f.Body.length:Int)≤24)))
  (.ret false))
 (.ret false))
 (.ret false))
def tq:=fun f=>(pT n_ f).get
def rq (g:bL) (o0:bL):TT Bool:=
 .ite (!(o0.Name==[])) (.ret (g.Name==o0.Name))
 (.ret false)
def eJ:=fun g o0=>(rq g o0).val
def gv (s:List bL) (t7:Int) (o0:bL) (v_:Int):Tree (Int ⊕ (Int ⊕ Unit)):=
 .ite (decide (v_<t7)) (.ite (cL v_ s.length) (.opt (s[v_.toNat]?) fun y_1=>
  .ite (eJ y_1 o0) (.ret (.inr (.inl v_)))
  (.ret (.inl (ay (v_+1))))) .fail)
 (.ret (.inr (.inr ())))
def hC:=fun s t7 o0 v_=>(gv s t7 o0 v_).get
def lU:=fun s t7 o0 t8=>iter (hC s t7 o0) n_ t8
def iF (s:List bL) (o0:bL):Tree Int:=
 .opt (lU n_ s (s.length:Int) o0 0) fun r_1=>
 ba r_1 (fun a_2=>
 .ret a_2) fun b_3=>
 .ret (-1)
def oi:=fun s o0=>(iF n_ s o0).get
def fX (s:List bL) (o0:bL):Tree Bool:=
 .opt (oi n_ s o0) fun r_1=>
 .ret (decide (r_1≥0))
def ia:=fun s o0=>(fX n_ s o0).get
def pS (m:bC):TT Bool:=
 .ite (fe m.Seq) (.ite (decide (m.aV≥0)) (.ite (decide (m.aV≤6)) (.ite (fe m.qo) (.ite (decide (m.G2≥0)) (.ret (decide (m.G2≤3)))
   (.ret false))
  (.ret false))
  (.ret false))
 (.ret false))
 (.ret false)
def o9:=fun m=>(pS m).val
def ff (m:bC):Bool:=(!(o9 m))
def gu (s:List bC) (t7:Int) (v_:Int):Tree (Int ⊕ (Int ⊕ Unit)):=
 .ite (decide (v_<t7)) (.ite (cL v_ s.length) (.opt (s[v_.toNat]?) fun y_1=>
  .ite (ff y_1) (.ret (.inr (.inl v_)))
  (.ret (.inl (ay (v_+1))))) .fail)
 (.ret (.inr (.inr ())))
def gX:=fun s t7 v_=>(gu s t7 v_).get
def lT:=fun s t7 t8=>iter (gX s t7) n_ t8
def iE (s:List bC):Tree Int:=
 .opt (lT n_ s (s.length:Int) 0) fun r_1=>
 ba r_1 (fun a_2=>
 .ret a_2) fun b_3=>
 .ret (-1)
def oh:=fun s=>(iE n_ s).get
def fW (s:List bC):Tree Bool:=
 .opt (oh n_ s) fun r_1=>
 .ret (decide (r_1≥0))
def hZ:=fun s=>(fW n_ s).get
def tr (t23:List bL) (t24:Int) (s:aI) (v_:Int):Tree (Int ⊕ (bL ⊕ Unit)):=
 .ite (decide (v_<t24)) (.ite (cL v_ t23.length) (.opt (t23[v_.toNat]?) fun y_1=>
  .opt (tq n_ y_1) fun r_2=>
  .ite (!r_2) (.ret (.inr (.inl y_1)))
  (.ite (j2 0 v_ s.aQ.length) (.opt (ia n_ (eD s.aQ 0 v_) y_1) fun r_3=>
  .ite r_3 (.ret (.inr (.inl y_1)))
  (.ret (.inl (ay (v_+1))))) .fail)) .fail)
 (.ret (.inr (.inr ())))
def uX:=fun t23 t24 s v_=>(tr n_ t23 t24 s v_).get
def BE:=fun t23 t24 s t25=>iter (uX n_ t23 t24 s) n_ t25
def xi (s:aI):Tree Bool:=
 .ite ((s.aQ.length:Int) != 6) (.ret false)
 (.ite ((s.Marks.length:Int) != 3) (.ret false)
 (.ite (!(fe s.aP)) (.ret false)
 (.opt (BE n_ s.aQ (s.aQ.length:Int) s 0) fun r_1=>
 ba r_1 (fun a_2=>
 .ret false) fun b_3=>
 .opt (hZ n_ s.Marks) fun r_4=>
 .ret (!r_4))))
def y4:=fun s=>(xi n_ s).get
def n9 (v:Int) (v_:Int×List UInt8):Tree ((Int×List UInt8) ⊕ (List UInt8)):=
 .ite (decide (v_.1≥0)) (.ite (decide ((ay (8*v_.1))<0)) .fail
 (.ite (decide ((v_.2.length+1)≤dy)) (.ret (.inl ((ay (v_.1-1)),(v_.2++[(b8 (qE (rv .i64 v (ay (8*v_.1)))))])))) .fail))
 (.ret (.inr v_.2))
def tc:=fun v v_=>(n9 v v_).get
def El:=fun v n b=>iter (tc v) n_ (n,b)
def ss (b:List UInt8) (v:Int) (n:Int):Tree (List UInt8):=
 .ite (decide (n<1)) (.ret b)
 (.ite (decide (n>8)) (.ret b)
 (.opt (El n_ v (ay (n-1)) b) fun r_1=>
 .ret r_1))
def dp:=fun b v n=>(ss n_ b v n).get
def ta (b:List UInt8) (s:List UInt8):Tree (List UInt8):=
 .ite (decide ((s.length:Int)>255)) (.ret b)
 (.ite (decide ((b.length+1)≤dy)) (.ite (decide (((b++[(b8 (qE (s.length:Int)))]).length+s.length)≤dy)) (.ret ((b++[(b8 (qE (s.length:Int)))])++s)) .fail) .fail)
def uM:=fun b s=>(ta b s).get
def r8 (b:List UInt8) (s:List UInt8) (n:Int):Tree (List UInt8):=
 .opt (uM b s) fun r_1=>
 .ite (Od (ay ((ay (n-1))-(s.length:Int)))) (.ite (decide ((r_1.length+(List.replicate (ay ((ay (n-1))-(s.length:Int))).toNat (0:UInt8)).length)≤dy)) (.ret (r_1++(List.replicate (ay ((ay (n-1))-(s.length:Int))).toNat (0:UInt8)))) .fail) .fail
def kZ:=fun b s n=>(r8 b s n).get
def tN (t18:List bC) (t19:Int) (s:aI) (v_:Int×List UInt8):Tree ((Int×List UInt8) ⊕ (List UInt8)):=
 .ite (decide (v_.1<t19)) (.ite (cL v_.1 t18.length) (.opt (t18[v_.1.toNat]?) fun y_1=>
  .opt (dp n_ v_.2 y_1.Seq 4) fun r_2=>
  .opt (dp n_ r_2 y_1.G2 1) fun r_3=>
  .opt (dp n_ r_3 y_1.aV 1) fun r_4=>
  .opt (dp n_ r_4 y_1.qo 4) fun r_5=>
  .ret (.inl ((ay (v_.1+1)),r_5))) .fail)
 (.ret (.inr v_.2))
def vP:=fun t18 t19 s v_=>(tN n_ t18 t19 s v_).get
def vR:=fun t18 t19 s t20 b=>iter (vP n_ t18 t19 s) n_ (t20,b)
def tM (t39:List bL) (t40:Int) (o0:aI) (v_:Int×List UInt8):Tree ((Int×List UInt8) ⊕ (List UInt8)):=
 .ite (decide (v_.1<t40)) (.ite (cL v_.1 t39.length) (.opt (t39[v_.1.toNat]?) fun y_1=>
  .opt (kZ v_.2 y_1.Name 9) fun r_2=>
  .opt (dp n_ r_2 y_1.qo 4) fun r_3=>
  .opt (kZ r_3 y_1.Body 25) fun r_4=>
  .ret (.inl ((ay (v_.1+1)),r_4))) .fail)
 (.ret (.inr v_.2))
def vO:=fun t39 t40 o0 v_=>(tM n_ t39 t40 o0 v_).get
def vQ:=fun t39 t40 o0 t41 b=>iter (vO n_ t39 t40 o0) n_ (t41,b)
def ym (s:aI):Tree (List (List UInt8)):=
 .opt (y4 n_ s) fun r_1=>
 .ite (!r_1) (.ret ([]))
 (.opt (dp n_ [] s.aP 4) fun r_2=>
 .opt (vR n_ s.Marks (s.Marks.length:Int) s 0 r_2) fun r_3=>
 .opt (vQ n_ s.aQ (s.aQ.length:Int) s 0 r_3) fun r_4=>
 .ite (decide (((r_4.length:Int).tmod 32)>0)) (.ite (Od (ay (32-((r_4.length:Int).tmod 32)))) (.ite (decide ((r_4.length+(List.replicate (ay (32-((r_4.length:Int).tmod 32))).toNat (0:UInt8)).length)≤dy)) (.ret (jl (r_4++(List.replicate (ay (32-((r_4.length:Int).tmod 32))).toNat (0:UInt8))))) .fail) .fail)
 (.ret (jl r_4)))
def oY:=fun s=>(ym n_ s).get
def Bw:Tree Int:=
 .opt Hy fun r_1=>
 .opt (oY n_ r_1) fun r_2=>
 .ret (r_2.length:Int)
def rj:=(Bw n_).get
def Bv:Tree Int:=
 .opt (rj n_) fun r_1=>
 .ret (ay ((ay (2*r_1))+1))
def Fk:=(Bv n_).get
def fN (x:Int) (y:Int):Int×Int:=((uP ((uP ((uP ((rv .u64 x 32)*(rv .u64 y 32)))+(rv .u64 (uP ((uP ((rv .u64 x 32)*(GM .u64 y 4294967295)))+(rv .u64 (uP ((GM .u64 x 4294967295)*(GM .u64 y 4294967295))) 32))) 32)))+(rv .u64 (uP ((GM .u64 (uP ((uP ((rv .u64 x 32)*(GM .u64 y 4294967295)))+(rv .u64 (uP ((GM .u64 x 4294967295)*(GM .u64 y 4294967295))) 32))) 4294967295)+(uP ((GM .u64 x 4294967295)*(rv .u64 y 32))))) 32))),(uP (x*y)))
def Gq (n:Int):Tree aT:=
 .ite (decide (n<1)) (.ret (aT.mk [] [] 0 false))
 (.ite (decide (n>64)) (.ret (aT.mk [] [] 0 false))
 (.ite (Fw ([0]:List UInt8) 32) (.ite (I1 [(pW ([0]:List UInt8) 32)] n) (.ret (aT.mk (pW [(pW ([0]:List UInt8) 32)] n) [] 0 false)) .fail) .fail))
def RJ:=fun n=>(Gq n).get
def PO (d:aT):Unit:=()
def wj (d:aT) (i:Int):TT Bool:=
 .ite (!d.Down) (.ite (decide (i≥0)) (.ret (decide (i<(d.bz.length:Int))))
 (.ret false))
 (.ret false)
def A0:=fun d i=>(wj d i).val
def wk (d:aT) (i:Int) (b:List UInt8):Tree (aT×Bool):=
 .ite (!(A0 d i)) (.ret (d,false))
 (.ite ((b.length:Int) != 32) (.ret (d,false))
 (.ite (decide ((d.bM.length+1)≤dy)) (.ite (decide (d.im>0)) (.ret ((aT.mk d.bz (d.bM++[(bJ.mk i b)]) (ay (d.im-1)) ((ay (d.im-1))==0)),(!((ay (d.im-1))==0))))
 (.ret ({d with bM:=(d.bM++[(bJ.mk i b)])},(!d.Down)))) .fail))
def sg:=fun d i b=>(wk d i b).get
def kI (p:bJ) (n:Int) (f:dw):Tree dw:=
 .ite (decide (p.At<0)) (.ret f)
 (.ite (decide (p.At≥(f.d.bz.length:Int))) (.ret f)
 (.ite (cL p.At f.d.bz.length) (.opt (f.d.bz[p.At.toNat]?) fun y_1=>
 .ite (j2 0 (imax (jE (jE n (p.B.length:Int)) (y_1.length:Int)) 0) p.B.length) (.ite (cL p.At f.d.bz.length) (.opt (f.d.bz[p.At.toNat]?) fun y_2=>
  .ite (j2 (imax (jE (jE n (p.B.length:Int)) (y_1.length:Int)) 0) (y_2.length:Int) y_2.length) (.ite (decide (((eD p.B 0 (imax (jE (jE n (p.B.length:Int)) (y_1.length:Int)) 0)).length+(eD y_2 (imax (jE (jE n (p.B.length:Int)) (y_1.length:Int)) 0) (y_2.length:Int)).length)≤dy)) (.ite (cL p.At f.d.bz.length) (.opt (f.d.bz[p.At.toNat]?) fun y_3=>
    .ret (dw.mk {f.d with bz:=(f.d.bz.set p.At.toNat ((eD p.B 0 (imax (jE (jE n (p.B.length:Int)) (y_1.length:Int)) 0))++(eD y_2 (imax (jE (jE n (p.B.length:Int)) (y_1.length:Int)) 0) (y_2.length:Int))))})) .fail) .fail) .fail) .fail) .fail) .fail))
def mJ:=fun p n f=>(kI p n f).get
def sh (t18:List bJ) (t19:Int) (o0:aT) (v_:Int×aT×dw):Tree ((Int×aT×dw) ⊕ (aT×dw)):=
 .ite (decide (v_.1<t19)) (.ite (cL v_.1 t18.length) (.opt (t18[v_.1.toNat]?) fun y_1=>
  .opt (mJ y_1 32 v_.2.2) fun r_2=>
  .ret (.inl ((ay (v_.1+1)),{v_.2.1 with bz:=[],bM:=[]},r_2))) .fail)
 (.ret (.inr ({v_.2.1 with bz:=[],bM:=[]},v_.2.2)))
def tU:=fun t18 t19 o0 v_=>(sh t18 t19 o0 v_).get
def tV:=fun t18 t19 o0 t20 o1 f=>iter (tU t18 t19 o0) n_ (t20,o1,f)
def wm (d:aT):Tree (aT×Bool):=
 .ite d.Down (.ret (d,false))
 (.opt (tV n_ d.bM (d.bM.length:Int) d 0 (aT.mk [] [] 0 false) (dw.mk d)) fun r_1=>
 .ret ({r_1.2.d with bM:=[]},true))
def wq:=fun d=>(wm n_ d).get
def xh (t9:List (List UInt8)) (t10:Int) (s:aI) (v_:Int×bZ×aT):Tree ((Int×bZ×aT) ⊕ (bZ×aT)):=
 .ite (decide (v_.1<t10)) (.ite (cL v_.1 t9.length) (.opt (t9[v_.1.toNat]?) fun y_1=>
  .opt (sg v_.2.2 v_.1 y_1) fun r_2=>
  .ret (.inl ((ay (v_.1+1)),(bZ.mk {v_.2.1.D with bz:=[],bM:=[]} (aI.mk [] [] v_.2.1.S.aP)),r_2.1))) .fail)
 (.ret (.inr ((bZ.mk {v_.2.1.D with bz:=[],bM:=[]} (aI.mk [] [] v_.2.1.S.aP)),v_.2.2)))
def G5:=fun t9 t10 s v_=>(xh t9 t10 s v_).get
def G6:=fun t9 t10 s t11 o0 d=>iter (G5 t9 t10 s) n_ (t11,o0,d)
def BA:Tree bZ:=
 .opt Hy fun r_1=>
 .opt (Fk n_) fun r_2=>
 .opt (RJ r_2) fun r_3=>
 .opt (oY n_ r_1) fun r_4=>
 .opt (G6 n_ r_4 (r_4.length:Int) r_1 0 (bZ.mk (aT.mk [] [] 0 false) (aI.mk [] [] 0)) r_3) fun r_5=>
 .opt (wq n_ r_5.2) fun r_6=>
 .ret (bZ.mk r_6.1 r_1)
def ME:=(BA n_).get
def uk (t13:List bC) (t14:Int) (st:bZ) (v_:Int×aG×aG):Tree ((Int×aG×aG) ⊕ (aG×aG)):=
 .ite (decide (v_.1<t14)) (.ite (cL v_.1 t13.length) (.opt (t13[v_.1.toNat]?) fun y_1=>
  .ite (decide ((v_.2.2.Seen.length+1)≤dy)) (.ret (.inl ((ay (v_.1+1)),{v_.2.1 with aB:=(bZ.mk {v_.2.1.aB.D with bz:=[],bM:=[]} (aI.mk [] [] v_.2.1.aB.S.aP)),aY:=(bR.mk [] []),Seen:=[],Told:=[]},{v_.2.2 with aY:=(bR.mk [] []),Seen:=(v_.2.2.Seen++[y_1.Seq]),Told:=[]}))) .fail) .fail)
 (.ret (.inr ({v_.2.1 with aB:=(bZ.mk {v_.2.1.aB.D with bz:=[],bM:=[]} (aI.mk [] [] v_.2.1.aB.S.aP)),aY:=(bR.mk [] []),Seen:=[],Told:=[]},{v_.2.2 with aY:=(bR.mk [] []),Told:=[]})))
def Ew:=fun t13 t14 st v_=>(uk t13 t14 st v_).get
def Ex:=fun t13 t14 st t15 o1 s=>iter (Ew t13 t14 st) n_ (t15,o1,s)
def xz (st:bZ) (now:Int):Tree aG:=
 .opt (Ex n_ st.S.Marks (st.S.Marks.length:Int) st 0 (aG.mk (bZ.mk (aT.mk [] [] 0 false) (aI.mk [] [] 0)) (bR.mk [] []) [] [] 0 0 0 false 0) (aG.mk st (bR.mk [] []) [] [] now 0 0 true 0)) fun r_1=>
 .ite (ZC (st.S.Marks.length:Int) (st.S.Marks.length:Int)) (.ret ({r_1.2 with aY:=(bR.mk [] []),Told:=(List.replicate (st.S.Marks.length:Int).toNat (bQ.mk 0 0 0 0 0 0 0 0 []))})) .fail
def BM:=fun st now=>(xz n_ st now).get
def xB (now:Int):Tree aG:=
 .opt (ME n_) fun r_1=>
 .opt (BM n_ r_1 now) fun r_2=>
 .ret r_2
def vh:=fun now=>(xB n_ now).get
def xK (n:Int) (least:Int):TT Bool:=
 .ite (decide (n≥least)) (.ret (decide (n≤1073741824)))
 (.ret false)
def zb:=fun n least=>(xK n least).val
def kP (s:List UInt8) (v_:Int):Tree (Int ⊕ (Unit ⊕ Unit)):=
 .ite (decide (v_<(s.length:Int))) (.ite (cL v_ s.length) (.opt (s[v_.toNat]?) fun y_1=>
  .ite (decide ((i8 y_1)<33)) (.ret (.inr (.inl ())))
  (.ite (cL v_ s.length) (.opt (s[v_.toNat]?) fun y_2=>
  .ite (decide ((i8 y_2)>126)) (.ret (.inr (.inl ())))
  (.ret (.inl (ay (v_+1))))) .fail)) .fail)
 (.ret (.inr (.inr ())))
def pZ:=fun s v_=>(kP s v_).get
def qa:=fun s i=>iter (pZ s) n_ i
def rD (s:List UInt8):Tree Bool:=
 .opt (qa n_ s 0) fun r_1=>
 ba r_1 (fun a_2=>
 .ret false) fun b_3=>
 .ite (decide ((s.length:Int)≥1)) (.ret (decide ((s.length:Int)≤8)))
 (.ret false)
def vm:=fun s=>(rD n_ s).get
def iw (a:List aX) (b:List aX) (v_:Int):Tree (Int ⊕ (Unit ⊕ Unit)):=
 .ite (decide (v_<(a.length:Int))) (.ite (cL v_ a.length) (.opt (a[v_.toNat]?) fun y_1=>
  .ite (cL v_ b.length) (.opt (b[v_.toNat]?) fun y_2=>
  .ite (!(aX.ee y_1 y_2)) (.ret (.inr (.inl ())))
  (.ret (.inl (ay (v_+1))))) .fail) .fail)
 (.ret (.inr (.inr ())))
def mr:=fun a b v_=>(iw a b v_).get
def mu:=fun a b i=>iter (mr a b) n_ i
def nw (a:List aX) (b:List aX):Tree Bool:=
 .ite ((a.length:Int) != (b.length:Int)) (.ret false)
 (.opt (mu n_ a b 0) fun r_1=>
 ba r_1 (fun a_2=>
 .ret false) fun b_3=>
 .ret true)
def pX:=fun a b=>(nw n_ a b).get
def qf (a:bf) (b:bf):Tree Bool:=
 .ite (a.Kind==b.Kind) (.ite (a.bg==b.bg) (.ite (a.aP==b.aP) (.ite (a.Seq==b.Seq) (.ite (a.Name==b.Name) (.ite (a.aV==b.aV) (.ite (a.Mode==b.Mode) (.opt (pX n_ a.aN b.aN) fun r_1=>
    .ret r_1)
    (.ret false))
   (.ret false))
   (.ret false))
  (.ret false))
  (.ret false))
 (.ret false))
 (.ret false)
def cx:=fun a b=>(qf n_ a b).get
def pY (w:aX):TT Bool:=
 .ite (decide (w.og≥0)) (.ite (decide (w.og<24)) (.ite (decide ((w.B.length:Int)≥1)) (.ret (decide ((w.B.length:Int)≤(ay (24-w.og)))))
  (.ret false))
 (.ret false))
 (.ret false)
def tu:=fun w=>(pY w).val
def kS (a:bf) (x:bf) (v_:Bool×Int):Tree ((Bool×Int) ⊕ Bool):=
 .ite (decide (v_.2<(a.aN.length:Int))) (.ite v_.1 (.ite (cL v_.2 a.aN.length) (.opt (a.aN[v_.2.toNat]?) fun y_1=>
  .ret (.inl ((tu y_1),(ay (v_.2+1))))) .fail)
 (.ret (.inl (false,(ay (v_.2+1))))))
 (.ret (.inr v_.1))
def qg:=fun a x v_=>(kS a x v_).get
def cR:=fun a x ok i=>iter (qg a x) n_ (ok,i)
def rK (a:bf):Tree Bool:=
 .ite (decide (a.Kind<1)) (.ret false)
 (.ite (decide (a.Kind>5)) (.ret false)
 (.ite (decide (a.bg<1)) (.ret false)
 (.ite (decide (a.bg>3)) (.ret false)
 (.ite (!(zb a.aP 0)) (.ret false)
 (.ite (!(zb a.Seq 1)) (.ret false)
 (.ite (a.Kind==1) (.opt (vm n_ a.Name) fun r_1=>
 .ite r_1 (.opt (cx n_ {a with aV:=0,Mode:=0,aN:=[]} a) fun r_2=>
  .ret r_2)
 (.ret false))
 (.ite (decide (a.aV≥1)) (.ite (a.Kind==2) (.ite (decide (a.aV≤6)) (.ite (a.Mode==1) (.opt (cx n_ {a with Name:=[],aN:=[]} a) fun r_3=>
   .ret r_3)
  (.ite (a.Mode==2) (.opt (cx n_ {a with Name:=[],aN:=[]} a) fun r_4=>
   .ret r_4)
  (.ret false)))
  (.ret false))
 (.ite (a.Kind==3) (.ite (decide (a.aV≤6)) (.ite (decide ((a.aN.length:Int)≤5)) (.ite (decide ((a.aN.length:Int)>0)) (.opt (cR n_ a {a with Name:=[],Mode:=0} true 0) fun r_5=>
   .ite r_5 (.opt (cx n_ {a with Name:=[],Mode:=0} a) fun r_6=>
    .ret r_6)
   (.ret false))
   (.opt (cR n_ a {a with Name:=[],Mode:=0} (a.Kind==4) 0) fun r_7=>
   .ite r_7 (.opt (cx n_ {a with Name:=[],Mode:=0} a) fun r_8=>
   .ret r_8)
   (.ret false)))
  (.opt (cR n_ a {a with Name:=[],Mode:=0} false 0) fun r_9=>
  .ite r_9 (.opt (cx n_ {a with Name:=[],Mode:=0} a) fun r_10=>
   .ret r_10)
  (.ret false)))
  (.opt (cR n_ a {a with Name:=[],Mode:=0} false 0) fun r_11=>
  .ite r_11 (.opt (cx n_ {a with Name:=[],Mode:=0} a) fun r_12=>
  .ret r_12)
  (.ret false)))
 (.ite (a.Kind==4) (.ite (decide (a.aV≤6)) (.ite (decide ((a.aN.length:Int)≤5)) (.ite (decide ((a.aN.length:Int)>0)) (.opt (cR n_ a {a with Name:=[],Mode:=0} true 0) fun r_13=>
   .ite r_13 (.opt (cx n_ {a with Name:=[],Mode:=0} a) fun r_14=>
    .ret r_14)
   (.ret false))
   (.opt (cR n_ a {a with Name:=[],Mode:=0} (a.Kind==4) 0) fun r_15=>
   .ite r_15 (.opt (cx n_ {a with Name:=[],Mode:=0} a) fun r_16=>
   .ret r_16)
   (.ret false)))
  (.opt (cR n_ a {a with Name:=[],Mode:=0} false 0) fun r_17=>
  .ite r_17 (.opt (cx n_ {a with Name:=[],Mode:=0} a) fun r_18=>
   .ret r_18)
  (.ret false)))
  (.opt (cR n_ a {a with Name:=[],Mode:=0} false 0) fun r_19=>
  .ite r_19 (.opt (cx n_ {a with Name:=[],Mode:=0} a) fun r_20=>
  .ret r_20)
  (.ret false)))
 (.ite (decide (a.aV≤6)) (.opt (cx n_ {a with Name:=[],Mode:=0,aN:=[]} a) fun r_21=>
  .ret r_21)
 (.ret false)))))
 (.ite (a.Kind==2) (.ret false)
 (.ite (a.Kind==3) (.opt (cR n_ a {a with Name:=[],Mode:=0} false 0) fun r_22=>
 .ite r_22 (.opt (cx n_ {a with Name:=[],Mode:=0} a) fun r_23=>
  .ret r_23)
 (.ret false))
 (.ite (a.Kind==4) (.opt (cR n_ a {a with Name:=[],Mode:=0} false 0) fun r_24=>
 .ite r_24 (.opt (cx n_ {a with Name:=[],Mode:=0} a) fun r_25=>
  .ret r_25)
 (.ret false))
 (.ret false)))))))))))
def qI:=fun a=>(rK n_ a).get
def BT (v:Int) (v_:Int×List UInt8):Tree ((Int×List UInt8) ⊕ (List UInt8)):=
 .ite (decide (v_.1≥0)) (.ite (decide ((ay (8*v_.1))<0)) .fail
 (.ite (decide ((v_.2.length+1)≤dy)) (.ret (.inl ((ay (v_.1-1)),(v_.2++[(b8 (qE (rv .i64 v (ay (8*v_.1)))))])))) .fail))
 (.ret (.inr v_.2))
def Ky:=fun v v_=>(BT v v_).get
def Kz:=fun v i out=>iter (Ky v) n_ (i,out)
def An (b:List UInt8) (v:Int) (n:Int):Tree (List UInt8):=
 .ite (decide (b.length≤dy)) (.ite (decide (n<1)) (.ret b)
 (.ite (decide (n>8)) (.ret b)
 (.opt (Kz n_ v (ay (n-1)) b) fun r_1=>
 .ret r_1))) .fail
def gO:=fun b v n=>(An n_ b v n).get
def xF (b:List UInt8) (s:List UInt8):Tree (List UInt8):=
 .ite (decide (b.length≤dy)) (.ite (decide ((s.length:Int)>255)) (.ret b)
 (.ite (decide ((b.length+1)≤dy)) (.ite (decide (((b++[(b8 (qE (s.length:Int)))]).length+s.length)≤dy)) (.ret ((b++[(b8 (qE (s.length:Int)))])++s)) .fail) .fail)) .fail
def za:=fun b s=>(xF b s).get
def vn (b:List UInt8) (i:Int) (v_:Int×Int):Tree ((Int×Int) ⊕ Int):=
 .ite (decide (v_.2<8)) (.ite ((v_.1.tmod 2)==1) (.ret (.inl ((Hp .i64 (ay (v_.1.tdiv 2)) 40961),(ay (v_.2+1)))))
 (.ret (.inl ((ay (v_.1.tdiv 2)),(ay (v_.2+1))))))
 (.ret (.inr v_.1))
def sO:=fun b i v_=>(vn b i v_).get
def xJ:=fun b i c k=>iter (sO b i) n_ (c,k)
def qH (b:List UInt8) (v_:Int×Int):Tree ((Int×Int) ⊕ Int):=
 .ite (decide (v_.2<(b.length:Int))) (.ite (cL v_.2 b.length) (.opt (b[v_.2.toNat]?) fun y_1=>
  .opt (xJ n_ b v_.2 (Hp .i64 v_.1 (ay (i8 y_1))) 0) fun r_2=>
  .ret (.inl (r_2,(ay (v_.2+1))))) .fail)
 (.ret (.inr v_.1))
def sN:=fun b v_=>(qH n_ b v_).get
def xI:=fun b c i=>iter (sN n_ b) n_ (c,i)
def Ao (b:List UInt8):Tree Int:=
 .opt (xI n_ b 0 0) fun r_1=>
 .ret (OQ r_1)
def Fy:=fun b=>(Ao n_ b).get
def rF (b:List UInt8):Tree (List UInt8):=
 .opt (Fy n_ b) fun r_1=>
 .opt (gO n_ b (ay r_1) 2) fun r_2=>
 .ret r_2
def vo:=fun b=>(rF n_ b).get
def kR (a:bf) (v_:List UInt8×Int):Tree ((List UInt8×Int) ⊕ (List UInt8)):=
 .ite (decide (v_.2<(a.aN.length:Int))) (.ite (cL v_.2 a.aN.length) (.opt (a.aN[v_.2.toNat]?) fun y_1=>
  .opt (gO n_ v_.1 y_1.og 1) fun r_2=>
  .ite (cL v_.2 a.aN.length) (.opt (a.aN[v_.2.toNat]?) fun y_3=>
  .opt (za r_2 y_3.B) fun r_4=>
  .ret (.inl (r_4,(ay (v_.2+1))))) .fail) .fail)
 (.ret (.inr v_.1))
def ma:=fun a v_=>(kR n_ a v_).get
def wP:=fun a b i=>iter (ma n_ a) n_ (b,i)
def rJ (a:bf):Tree (List UInt8):=
 .opt (qI n_ a) fun r_1=>
 .ite (!r_1) (.ret ([]))
 (.opt (gO n_ [] a.Kind 1) fun r_2=>
 .opt (gO n_ r_2 a.bg 1) fun r_3=>
 .opt (gO n_ r_3 a.aP 4) fun r_4=>
 .opt (gO n_ r_4 a.Seq 4) fun r_5=>
 .opt (za r_5 a.Name) fun r_6=>
 .opt (gO n_ r_6 a.aV 1) fun r_7=>
 .opt (gO n_ r_7 a.Mode 1) fun r_8=>
 .opt (gO n_ r_8 (a.aN.length:Int) 1) fun r_9=>
 .opt (wP n_ a r_9 0) fun r_10=>
 .opt (vo n_ r_10) fun r_11=>
 .ret r_11)
def aZ:=fun a=>(rJ n_ a).get
def gA (s:aG):ax:=(ax.mk s [])
def wH (b:List UInt8) (n:Int):Tree ((List UInt8) ⊕ Unit):=
 .ite (decide ((b.length:Int)<n)) (.ret (.inr ()))
 (.ite (j2 0 n b.length) (.ret (.inl (eD b 0 n))) .fail)
def wI:=fun b n=>(wH b n).get
def pr (t16:List UInt8) (t17:Int) (ok:Bool) (v_:Int×Int):Tree ((Int×Int) ⊕ Int):=
 .ite (decide (v_.2<t17)) (.ite (cL v_.2 t16.length) (.opt (t16[v_.2.toNat]?) fun y_1=>
  .ret (.inl ((bor .i64 (QG .i64 v_.1 8) (ay (i8 y_1))),(ay (v_.2+1))))) .fail)
 (.ret (.inr v_.1))
def qP:=fun t16 t17 ok v_=>(pr t16 t17 ok v_).get
def Cz:=fun t16 t17 ok v t18=>iter (qP t16 t17 ok) n_ (v,t18)
def yM (b:List UInt8) (n:Int):Tree (Int×Bool):=
 .ite (decide (n<1)) (.ret (0,false))
 (.ite (decide (n>7)) (.ret (0,false))
 (.opt (wI b n) fun r_1=>
 ba r_1 (fun a_2=>
 .opt (Cz n_ a_2 (a_2.length:Int) false 0 0) fun r_3=>
 .ret (r_3,true)) fun b_4=>
 .ret (0,false)))
def uN:=fun b n=>(yM n_ b n).get
def oN (n:Int) (r:cq):Tree ((Int×cq) ⊕ Unit):=
 .opt (uN n_ r.b n) fun r_1=>
 .ite (!r_1.2) (.ret (.inr ()))
 (.ite (j2 n (r.b.length:Int) r.b.length) (.ret (.inl (r_1.1,(cq.mk (eD r.b n (r.b.length:Int)))))) .fail)
def dn:=fun n r=>(oN n_ n r).get
def qn (b:List UInt8):Tree (List UInt8×Int×Bool):=
 .opt (wI b 1) fun r_1=>
 ba r_1 (fun a_2=>
 .ite (cL 0 a_2.length) (.opt (a_2[0]?) fun y_3=>
  .ite (decide ((b.length:Int)<(ay ((ay (i8 y_3))+1)))) (.ret ([],0,false))
  (.ite (j2 1 (ay ((ay (i8 y_3))+1)) b.length) (.ret ((eD b 1 (ay ((ay (i8 y_3))+1))),(ay ((ay (i8 y_3))+1)),true)) .fail)) .fail) fun b_4=>
 .ret ([],0,false)
def pt:=fun b=>(qn b).get
def nI (r:cq):Tree ((List UInt8×cq) ⊕ Unit):=
 .opt (pt r.b) fun r_1=>
 .ite (!r_1.2.2) (.ret (.inr ()))
 (.ite (j2 r_1.2.1 (r.b.length:Int) r.b.length) (.ret (.inl (r_1.1,(cq.mk (eD r.b r_1.2.1 (r.b.length:Int)))))) .fail)
def mb:=fun r=>(nI r).get
def je (v_:Int×cq×bf):Tree ((Int×cq×bf) ⊕ ((cq×bf) ⊕ ((cq×bf×aX) ⊕ (cq×bf)))):=
 .ite (decide (v_.1>0)) (.opt (dn n_ 1 v_.2.1) fun r_1=>
 ba r_1 (fun a_2=>
  .opt (mb a_2.2) fun r_3=>
  ba r_3 (fun a_4=>
  .ite (decide ((v_.2.2.aN.length+1)≤dy)) (.ret (.inl ((ay (v_.1-1)),a_4.2,{v_.2.2 with aN:=(v_.2.2.aN++[(aX.mk a_2.1 a_4.1)])}))) .fail) fun b_5=>
  .ret (.inr (.inr (.inl (a_2.2,v_.2.2,(aX.mk a_2.1 [])))))) fun b_6=>
 .ret (.inr (.inl (v_.2.1,v_.2.2))))
 (.ret (.inr (.inr (.inr (v_.2.1,v_.2.2)))))
def jW:=fun v_=>(je n_ v_).get
def sS:=fun n r a=>iter (jW n_) n_ (n,r,a)
def oO (r:cq):Tree ((bf×cq) ⊕ cq):=
 .opt (dn n_ 1 r) fun r_1=>
 ba r_1 (fun a_2=>
 .opt (dn n_ 1 a_2.2) fun r_3=>
 ba r_3 (fun a_4=>
  .opt (dn n_ 4 a_4.2) fun r_5=>
  ba r_5 (fun a_6=>
  .opt (dn n_ 4 a_6.2) fun r_7=>
  ba r_7 (fun a_8=>
   .opt (mb a_8.2) fun r_9=>
   ba r_9 (fun a_10=>
   .opt (dn n_ 1 a_10.2) fun r_11=>
   ba r_11 (fun a_12=>
    .opt (dn n_ 1 a_12.2) fun r_13=>
    ba r_13 (fun a_14=>
    .opt (dn n_ 1 a_14.2) fun r_15=>
    ba r_15 (fun a_16=>
     .opt (sS n_ a_16.1 a_16.2 (bf.mk a_2.1 a_4.1 a_6.1 a_8.1 a_10.1 a_12.1 a_14.1 [])) fun r_17=>
     ba r_17 (fun a_18=>
     .ret (.inr a_18.1)) fun b_19=>
     ba b_19 (fun a_20=>
     .ret (.inr a_20.1)) fun b_21=>
     .ret (.inl (b_21.2,b_21.1))) fun b_22=>
    .ret (.inr a_14.2)) fun b_23=>
    .ret (.inr a_12.2)) fun b_24=>
   .ret (.inr a_10.2)) fun b_25=>
   .ret (.inr a_8.2)) fun b_26=>
  .ret (.inr a_6.2)) fun b_27=>
  .ret (.inr a_4.2)) fun b_28=>
 .ret (.inr a_2.2)) fun b_29=>
 .ret (.inr r)
def rQ:=fun r=>(oO n_ r).get
def Ay (lo:Int) (hi:Int) (v:Int):TT Bool:=
 .ite (decide (lo≤v)) (.ret (decide (v≤hi)))
 (.ret false)
def ga:=fun lo hi v=>(Ay lo hi v).val
def v7 (w:aX):TT Bool:=
 .ite (decide (w.og≥0)) (.ite (decide ((w.B.length:Int)≥1)) (.ite (decide ((w.B.length:Int)≤24)) (.ret (decide (w.og≤(ay (24-(w.B.length:Int))))))
  (.ret false))
 (.ret false))
 (.ret false)
def bU:=fun w=>(v7 w).val
def vv (w:aX):Bool:=(!(bU w))
def eK (s:List aX) (t7:Int) (v_:Int):Tree (Int ⊕ (Int ⊕ Unit)):=
 .ite (decide (v_<t7)) (.ite (cL v_ s.length) (.opt (s[v_.toNat]?) fun y_1=>
  .ite (vv y_1) (.ret (.inr (.inl v_)))
  (.ret (.inl (ay (v_+1))))) .fail)
 (.ret (.inr (.inr ())))
def dQ:=fun s t7 v_=>(eK s t7 v_).get
def lj:=fun s t7 t8=>iter (dQ s t7) n_ t8
def gW (s:List aX):Tree Int:=
 .opt (lj n_ s (s.length:Int) 0) fun r_1=>
 ba r_1 (fun a_2=>
 .ret a_2) fun b_3=>
 .ret (-1)
def ni:=fun s=>(gW n_ s).get
def fJ (s:List aX):Tree Bool:=
 .opt (ni n_ s) fun r_1=>
 .ret (decide (r_1≥0))
def df:=fun s=>(fJ n_ s).get
def xS (a:bf):Tree (bf×Bool):=
 .ite (a.Kind==1) (.opt (zk n_ a.Name) fun r_1=>
 .ret ({a with aV:=0,Mode:=0,aN:=[]},r_1))
 (.ite (a.Kind==2) (.ite (ga 1 6 a.aV) (.ret ({a with Name:=[],aN:=[]},(ga 1 2 a.Mode)))
 (.ret ({a with Name:=[],aN:=[]},false)))
 (.ite (a.Kind==3) (.ite (decide ((a.aN.length:Int)≤5)) (.ite (decide ((a.aN.length:Int)>0)) (.ite (ga 1 6 a.aV) (.opt (df n_ a.aN) fun r_2=>
   .ret ({a with Name:=[],Mode:=0},(!r_2)))
  (.ret ({a with Name:=[],Mode:=0},false)))
  (.ite (ga 1 6 a.aV) (.ite (a.Kind==4) (.opt (df n_ a.aN) fun r_3=>
   .ret ({a with Name:=[],Mode:=0},(!r_3)))
  (.ret ({a with Name:=[],Mode:=0},false)))
  (.ret ({a with Name:=[],Mode:=0},false))))
 (.ite (ga 1 6 a.aV) (.ret ({a with Name:=[],Mode:=0},false))
 (.ret ({a with Name:=[],Mode:=0},false))))
 (.ite (a.Kind==4) (.ite (decide ((a.aN.length:Int)≤5)) (.ite (decide ((a.aN.length:Int)>0)) (.ite (ga 1 6 a.aV) (.opt (df n_ a.aN) fun r_4=>
   .ret ({a with Name:=[],Mode:=0},(!r_4)))
  (.ret ({a with Name:=[],Mode:=0},false)))
  (.ite (ga 1 6 a.aV) (.ite (a.Kind==4) (.opt (df n_ a.aN) fun r_5=>
   .ret ({a with Name:=[],Mode:=0},(!r_5)))
  (.ret ({a with Name:=[],Mode:=0},false)))
  (.ret ({a with Name:=[],Mode:=0},false))))
 (.ite (ga 1 6 a.aV) (.ret ({a with Name:=[],Mode:=0},false))
 (.ret ({a with Name:=[],Mode:=0},false))))
 (.ret ({a with Name:=[],Mode:=0,aN:=[]},(ga 1 6 a.aV))))))
def C4:=fun a=>(xS n_ a).get
def fH (s1:List aX) (s2:List aX) (t12:Int) (v_:Int):Tree (Int ⊕ (Unit ⊕ Unit)):=
 .ite (decide (v_<t12)) (.ite (cL v_ s1.length) (.opt (s1[v_.toNat]?) fun y_1=>
  .ite (cL v_ s2.length) (.opt (s2[v_.toNat]?) fun y_2=>
  .ite (!(aX.ee y_1 y_2)) (.ret (.inr (.inl ())))
  (.ret (.inl (ay (v_+1))))) .fail) .fail)
 (.ret (.inr (.inr ())))
def jy:=fun s1 s2 t12 v_=>(fH s1 s2 t12 v_).get
def jz:=fun s1 s2 t12 t13=>iter (jy s1 s2 t12) n_ t13
def kh (s1:List aX) (s2:List aX):Tree Bool:=
 .ite ((s1.length:Int) != (s2.length:Int)) (.ret false)
 (.opt (jz n_ s1 s2 (s1.length:Int) 0) fun r_1=>
 ba r_1 (fun a_2=>
 .ret false) fun b_3=>
 .ret true)
def ml:=fun s1 s2=>(kh n_ s1 s2).get
def tC (a:bf) (b:bf):Tree Bool:=
 .ite (a.Kind==b.Kind) (.ite (a.bg==b.bg) (.ite (a.aP==b.aP) (.ite (a.Seq==b.Seq) (.ite (a.Name==b.Name) (.ite (a.aV==b.aV) (.ite (a.Mode==b.Mode) (.opt (ml n_ a.aN b.aN) fun r_1=>
    .ret r_1)
    (.ret false))
   (.ret false))
   (.ret false))
  (.ret false))
  (.ret false))
 (.ret false))
 (.ret false)
def xU:=fun a b=>(tC n_ a b).get
def vA (a:bf):Tree Bool:=
 .ite (!(ga 1 5 a.Kind)) (.ret false)
 (.ite (!(ga 1 3 a.bg)) (.ret false)
 (.ite (!(ga 0 1073741824 a.aP)) (.ret false)
 (.ite (!(ga 1 1073741824 a.Seq)) (.ret false)
 (.opt (C4 n_ a) fun r_1=>
 .ite r_1.2 (.opt (xU n_ a r_1.1) fun r_2=>
 .ret r_2)
 (.ret false)))))
def AA:=fun a=>(vA n_ a).get
def yG (t6:List UInt8) (t7:Int) (t8:Int) (v_:Int×Int):Tree ((Int×Int) ⊕ Int):=
 .ite (decide (v_.2<8)) (.ite ((GM .u16 v_.1 1)==1) (.ret (.inl ((Hp .u16 (rv .u16 v_.1 1) 40961),(ay (v_.2+1)))))
 (.ret (.inl ((rv .u16 v_.1 1),(ay (v_.2+1))))))
 (.ret (.inr v_.1))
def wA:=fun t6 t7 t8 v_=>(yG t6 t7 t8 v_).get
def Bd:=fun t6 t7 t8 c t16=>iter (wA t6 t7 t8) n_ (c,t16)
def s9 (t6:List UInt8) (t7:Int) (v_:Int×Int):Tree ((Int×Int) ⊕ Int):=
 .ite (decide (v_.2<t7)) (.ite (cL v_.2 t6.length) (.opt (t6[v_.2.toNat]?) fun y_1=>
  .opt (Bd n_ t6 t7 v_.2 (Hp .u16 v_.1 (OQ (i8 y_1))) 0) fun r_2=>
  .ret (.inl (r_2,(ay (v_.2+1))))) .fail)
 (.ret (.inr v_.1))
def wz:=fun t6 t7 v_=>(s9 n_ t6 t7 v_).get
def Bc:=fun t6 t7 c t8=>iter (wz n_ t6 t7) n_ (c,t8)
def Dz (b:List UInt8):Tree Int:=
 .opt (Bc n_ b (b.length:Int) 0 0) fun r_1=>
 .ret r_1
def JP:=fun b=>(Dz n_ b).get
def vw (b:List UInt8):Tree (List UInt8):=
 .opt (JP n_ b) fun r_1=>
 .opt (dp n_ b (ay r_1) 2) fun r_2=>
 .ret r_2
def Ax:=fun b=>(vw n_ b).get
def nJ (t37:List aX) (t38:Int) (o0:bf) (v_:List UInt8×Int):Tree ((List UInt8×Int) ⊕ (List UInt8)):=
 .ite (decide (v_.2<t38)) (.ite (cL v_.2 t37.length) (.opt (t37[v_.2.toNat]?) fun y_1=>
  .opt (dp n_ v_.1 y_1.og 1) fun r_2=>
  .opt (uM r_2 y_1.B) fun r_3=>
  .ret (.inl (r_3,(ay (v_.2+1))))) .fail)
 (.ret (.inr v_.1))
def ph:=fun t37 t38 o0 v_=>(nJ n_ t37 t38 o0 v_).get
def zN:=fun t37 t38 o0 b t39=>iter (ph n_ t37 t38 o0) n_ (b,t39)
def vz (a:bf):Tree (List UInt8):=
 .opt (AA n_ a) fun r_1=>
 .ite (!r_1) (.ret ([]))
 (.opt (dp n_ [] a.Kind 1) fun r_2=>
 .opt (dp n_ r_2 a.bg 1) fun r_3=>
 .opt (dp n_ r_3 a.aP 4) fun r_4=>
 .opt (dp n_ r_4 a.Seq 4) fun r_5=>
 .opt (uM r_5 a.Name) fun r_6=>
 .opt (dp n_ r_6 a.aV 1) fun r_7=>
 .opt (dp n_ r_7 a.Mode 1) fun r_8=>
 .opt (dp n_ r_8 (a.aN.length:Int) 1) fun r_9=>
 .opt (zN n_ a.aN (a.aN.length:Int) a r_9 0) fun r_10=>
 .opt (Ax n_ r_10) fun r_11=>
 .ret r_11)
def Az:=fun a=>(vz n_ a).get
def gi (s1:List UInt8) (s2:List UInt8) (t12:Int) (v_:Int):Tree (Int ⊕ (Unit ⊕ Unit)):=
 .ite (decide (v_<t12)) (.ite (cL v_ s1.length) (.opt (s1[v_.toNat]?) fun y_1=>
  .ite (cL v_ s2.length) (.opt (s2[v_.toNat]?) fun y_2=>
  .ite ((i8 y_1) != (i8 y_2)) (.ret (.inr (.inl ())))
  (.ret (.inl (ay (v_+1))))) .fail) .fail)
 (.ret (.inr (.inr ())))
def kf:=fun s1 s2 t12 v_=>(gi s1 s2 t12 v_).get
def kg:=fun s1 s2 t12 t13=>iter (kf s1 s2 t12) n_ t13
def lB (s1:List UInt8) (s2:List UInt8):Tree Bool:=
 .ite ((s1.length:Int) != (s2.length:Int)) (.ret false)
 (.opt (kg n_ s1 s2 (s1.length:Int) 0) fun r_1=>
 ba r_1 (fun a_2=>
 .ret false) fun b_3=>
 .ret true)
def nj:=fun s1 s2=>(lB n_ s1 s2).get
def qh (b:List UInt8):Tree (bf×Bool):=
 .opt (rQ n_ (cq.mk b)) fun r_1=>
 ba r_1 (fun a_2=>
 .ite ((b.length:Int)==0) (.ret ((bf.mk 0 0 0 0 [] 0 0 []),false))
 (.opt (Az n_ a_2.1) fun r_3=>
 .opt (nj n_ r_3 b) fun r_4=>
 .ite (!r_4) (.ret ((bf.mk 0 0 0 0 [] 0 0 []),false))
 (.ret (a_2.1,true)))) fun b_5=>
 .ret ((bf.mk 0 0 0 0 [] 0 0 []),false)
def zM:=fun b=>(qh n_ b).get
def tz (b:List UInt8):Tree (bf×Bool):=
 .opt (zM n_ b) fun r_1=>
 .ret (r_1.1,r_1.2)
def xT:=fun b=>(tz n_ b).get
def qL (l:List bC) (aU:Int):TT Bool:=
 .ite (decide (aU≥1)) (.ret (decide (aU≤(l.length:Int))))
 (.ret false)
def vB:=fun l aU=>(qL l aU).val
def C6 (l:List bC) (aU:Int) (seq:Int):Tree (bC×Bool):=
 .ite (!(vB l aU)) (.ret ((bC.mk 0 0 0 0),false))
 (.ite (decide (seq≤0)) (.ret ((bC.mk 0 0 0 0),false))
 (.ite (cL (ay (aU-1)) l.length) (.opt (l[(ay (aU-1)).toNat]?) fun y_1=>
 .ite (y_1.Seq != seq) (.ret ((bC.mk 0 0 0 0),false))
 (.ite (cL (ay (aU-1)) l.length) (.opt (l[(ay (aU-1)).toNat]?) fun y_2=>
  .ret (y_2,true)) .fail)) .fail))
def Oh:=fun l aU seq=>(C6 l aU seq).get
def vg (sf:Int) (seen:List Int) (told:List bQ) (marks:List bC) (a:bf):Tree (Int×bQ):=
 .ite ((seen.length:Int) != (marks.length:Int)) (.ret (2,(bQ.mk 0 0 0 0 0 0 0 0 [])))
 (.ite ((told.length:Int) != (marks.length:Int)) (.ret (2,(bQ.mk 0 0 0 0 0 0 0 0 [])))
 (.ite (decide (a.bg<1)) (.ret (2,(bQ.mk 0 0 0 0 0 0 0 0 [])))
 (.ite (decide (a.bg>(seen.length:Int))) (.ret (2,(bQ.mk 0 0 0 0 0 0 0 0 [])))
 (.ite (decide (a.Seq<1)) (.ret (2,(bQ.mk 0 0 0 0 0 0 0 0 [])))
 (.ite (a.aP != sf) (.ret (1,(bQ.mk 0 0 0 0 0 0 0 0 [])))
 (.ite (cL (ay (a.bg-1)) seen.length) (.opt (seen[(ay (a.bg-1)).toNat]?) fun y_1=>
 .ite (decide (a.Seq<y_1)) (.ret (2,(bQ.mk 0 0 0 0 0 0 0 0 [])))
 (.ite (cL (ay (a.bg-1)) told.length) (.opt (told[(ay (a.bg-1)).toNat]?) fun y_2=>
  .ite (y_2.Seq==a.Seq) (.ite (cL (ay (a.bg-1)) told.length) (.opt (told[(ay (a.bg-1)).toNat]?) fun y_3=>
   .ret (3,y_3)) .fail)
  (.opt (Oh marks a.bg a.Seq) fun r_4=>
  .ite r_4.2 (.ret (3,(bQ.mk 1 a.bg sf a.Seq r_4.1.G2 r_4.1.aV 0 r_4.1.qo [])))
  (.ret (4,(bQ.mk 0 0 0 0 0 0 0 0 []))))) .fail)) .fail))))))
def Al:=fun sf seen told marks a=>(vg sf seen told marks a).get
def dI (aU:Int) (t:bQ) (h:ax):Tree ax:=
 .ite (decide (aU≥1)) (.ite (decide (aU≤(h.Server.Told.length:Int))) (.ite (cL (ay (aU-1)) h.Server.Told.length) (.opt (h.Server.Told[(ay (aU-1)).toNat]?) fun y_1=>
  .ite (decide (y_1.Seq≤t.Seq)) (.ite (cL (ay (aU-1)) h.Server.Told.length) (.opt (h.Server.Told[(ay (aU-1)).toNat]?) fun y_2=>
   .ret (ax.mk {h.Server with Told:=(h.Server.Told.set (ay (aU-1)).toNat {t with Kind:=1,To:=aU,aP:=h.Server.aB.S.aP})} [{t with Kind:=1,To:=aU,aP:=h.Server.aB.S.aP}])) .fail)
  (.ret ({h with told:=[{t with Kind:=1,To:=aU,aP:=h.Server.aB.S.aP}]}))) .fail)
 (.ret ({h with told:=[{t with Kind:=1,To:=aU,aP:=h.Server.aB.S.aP}]})))
 (.ret ({h with told:=[{t with Kind:=1,To:=aU,aP:=h.Server.aB.S.aP}]}))
def iI:=fun aU t h=>(dI aU t h).get
def ek (a:bf) (t:bQ) (h:ax):Tree ax:=
 .opt (iI a.bg {t with Seq:=a.Seq} {h with told:=[]}) fun r_1=>
 .ret r_1
def dv:=fun a t h=>(ek a t h).get
def Fm (s:aI):Unit:=()
def l5 (f:bL) (o0:List UInt8):Bool:=(f.Name==o0)
def jR (s:List bL) (t7:Int) (o0:List UInt8) (v_:Int):Tree (Int ⊕ (Int ⊕ Unit)):=
 .ite (decide (v_<t7)) (.ite (cL v_ s.length) (.opt (s[v_.toNat]?) fun y_1=>
  .ite (l5 y_1 o0) (.ret (.inr (.inl v_)))
  (.ret (.inl (ay (v_+1))))) .fail)
 (.ret (.inr (.inr ())))
def kd:=fun s t7 o0 v_=>(jR s t7 o0 v_).get
def ke:=fun s t7 o0 t8=>iter (kd s t7 o0) n_ t8
def gw (s:List bL) (o0:List UInt8):Tree Int:=
 .opt (ke n_ s (s.length:Int) o0 0) fun r_1=>
 ba r_1 (fun a_2=>
 .ret a_2) fun b_3=>
 .ret (-1)
def mR:=fun s o0=>(gw n_ s o0).get
def wu (l:List bL) (name:List UInt8):Tree (Int×Bool):=
 .opt (mR n_ l name) fun r_1=>
 .ret ((ay (r_1+1)),(decide (r_1≥0)))
def wv:=fun l name=>(wu n_ l name).get
def A7 (l:List bL) (name:List UInt8):Tree (Int×Bool):=
 .opt (zk n_ name) fun r_1=>
 .ite (!r_1) (.ret (0,false))
 (.opt (wv n_ l name) fun r_2=>
 .ret (r_2.1,r_2.2))
def Gt:=fun l name=>(A7 n_ l name).get
def A4 (l:List bL):Tree (Int×Bool):=
 .opt (wv n_ l []) fun r_1=>
 .ret (r_1.1,r_1.2)
def Gs:=fun l=>(A4 n_ l).get
def pU (s:aI) (o3:List UInt8):Tree ((bC×aI) ⊕ cN):=
 .opt (zk n_ o3) fun r_1=>
 .ite (!r_1) (.ret (.inr (cN.mk 1)))
 (.opt (Gt n_ s.aQ o3) fun r_2=>
 .ite (!r_2.2) (.opt (Gs n_ s.aQ) fun r_3=>
 .ite (!r_3.2) (.ret (.inr (cN.mk 3)))
 (.ite (cL (ay (r_3.1-1)) s.aQ.length) (.opt (s.aQ[(ay (r_3.1-1)).toNat]?) fun y_4=>
  .ite (cL (ay (r_3.1-1)) (s.aQ.set (ay (r_3.1-1)).toNat (bL.mk o3 1 [])).length) (.opt ((s.aQ.set (ay (r_3.1-1)).toNat (bL.mk o3 1 []))[(ay (r_3.1-1)).toNat]?) fun y_5=>
  .ret (.inl ((bC.mk 0 0 r_3.1 y_5.qo),{s with aQ:=(s.aQ.set (ay (r_3.1-1)).toNat (bL.mk o3 1 []))}))) .fail) .fail))
 (.ite (cL (ay (r_2.1-1)) s.aQ.length) (.opt (s.aQ[(ay (r_2.1-1)).toNat]?) fun y_6=>
 .ret (.inl ((bC.mk 0 0 r_2.1 y_6.qo),s))) .fail))
def zE:=fun s o3=>(pU n_ s o3).get
def AE (l:List bC) (aU:Int) (m:bC):Tree (List bC):=
 .ite (vB l aU) (.ite (cL (ay (aU-1)) l.length) (.opt (l[(ay (aU-1)).toNat]?) fun y_1=>
  .ite (decide (m.Seq>y_1.Seq)) (.ite (cL (ay (aU-1)) l.length) (.opt (l[(ay (aU-1)).toNat]?) fun y_2=>
   .ret (l.set (ay (aU-1)).toNat m)) .fail)
  (.ret l)) .fail)
 (.ret l)
def pD:=fun l aU m=>(AE l aU m).get
def uV (s:aI) (aU:Int) (seq:Int) (o0:List UInt8):Tree (aI×bC):=
 .opt (zE n_ s o0) fun r_1=>
 ba r_1 (fun a_2=>
 .opt (pD a_2.2.Marks aU {a_2.1 with Seq:=seq}) fun r_3=>
 .ret ({a_2.2 with Marks:=r_3},{a_2.1 with Seq:=seq})) fun b_4=>
 .opt (pD s.Marks aU (bC.mk seq b_4.e 0 0)) fun r_5=>
 .ret ({s with Marks:=r_5},(bC.mk seq b_4.e 0 0))
def Fl:=fun s aU seq o0=>(uV n_ s aU seq o0).get
def uW (s:aI) (aU:Int) (seq:Int) (name:List UInt8):Tree (aI×bC):=
 .opt (Fl n_ s aU seq name) fun r_1=>
 .ret (r_1.1,r_1.2)
def Af:=fun s aU seq name=>(uW n_ s aU seq name).get
def MC (s:aI):Unit:=()
def vM (home:Int) (l:List bJ) (t10:List bJ) (t11:Int) (d:aT) (v_:Int×Int):Tree ((Int×Int) ⊕ (bJ ⊕ Unit)):=
 .ite (decide (v_.2<t11)) (.ite (cL v_.2 t10.length) (.opt (t10[v_.2.toNat]?) fun y_1=>
  .ite (decide (y_1.At≤v_.1)) (.ret (.inr (.inl y_1)))
  (.ite (decide (y_1.At≥home)) (.ret (.inr (.inl y_1)))
  (.ite ((y_1.B.length:Int) != 32) (.ret (.inr (.inl y_1)))
  (.ret (.inl (y_1.At,(ay (v_.2+1)))))))) .fail)
 (.ret (.inr (.inr ())))
def yh:=fun home l t10 t11 d v_=>(vM home l t10 t11 d v_).get
def D5:=fun home l t10 t11 d last t12=>iter (yh home l t10 t11 d) n_ (last,t12)
def AO (d:aT) (home:Int) (l:List bJ):Tree Bool:=
 .opt (D5 n_ home l l (l.length:Int) d (-1) 0) fun r_1=>
 ba r_1 (fun a_2=>
 .ret false) fun b_3=>
 .ite (decide ((l.length:Int)≤16)) (.ret (decide ((ay (home+(l.length:Int)))<(d.bz.length:Int))))
 (.ret false)
def F4:=fun d home l=>(AO n_ d home l).get
def B8:Unit:=()
def gb (d:aT) (ok:Bool) (w:bd):Tree (bd ⊕ bd):=
 .ite (!ok) (.ret (.inr (bd.mk d)))
 (.ret (.inl (bd.mk d)))
def fc:=fun d ok w=>(gb d ok w).get
def lI (i:Int) (b:List UInt8) (w:bd):Tree ((bd×List (List UInt8)×List bJ) ⊕ (bd×List (List UInt8)×List bJ)):=
 .opt (sg w.d i b) fun r_1=>
 .opt (fc r_1.1 r_1.2 w) fun r_2=>
 ba r_2 (fun a_3=>
 .ret (.inl (a_3,w.d.bz,w.d.bM))) fun b_4=>
 .ret (.inr (b_4,w.d.bz,w.d.bM))
def jZ:=fun i b w=>(lI i b w).get
def lJ (w:bd):Tree (bd ⊕ bd):=
 .opt (wq n_ w.d) fun r_1=>
 .opt (fc r_1.1 r_1.2 w) fun r_2=>
 ba r_2 (fun a_3=>
 .ret (.inl a_3)) fun b_4=>
 .ret (.inr b_4)
def eT:=fun w=>(lJ n_ w).get
def jD (i:Int) (b:List UInt8) (w:bd):Tree (bd ⊕ bd):=
 .opt (sg w.d i b) fun r_1=>
 .opt (fc r_1.1 r_1.2 w) fun r_2=>
 ba r_2 (fun a_3=>
 .ret (.inl a_3)) fun b_4=>
 .ret (.inr b_4)
def eW:=fun i b w=>(jD i b w).get
def tK (t16:List bJ) (t17:Int) (v_:Int×List UInt8):Tree ((Int×List UInt8) ⊕ (List UInt8)):=
 .ite (decide (v_.1<t17)) (.ite (cL v_.1 t16.length) (.opt (t16[v_.1.toNat]?) fun y_1=>
  .ite (cL (ay (2+v_.1)) v_.2.length) (.opt (v_.2[(ay (2+v_.1)).toNat]?) fun y_2=>
  .ret (.inl ((ay (v_.1+1)),(v_.2.set (ay (2+v_.1)).toNat (b8 (qE y_1.At)))))) .fail) .fail)
 (.ret (.inr v_.2))
def vN:=fun t16 t17 v_=>(tK t16 t17 v_).get
def Ca:=fun t16 t17 t18 b=>iter (vN t16 t17) n_ (t18,b)
def yi (l:List bJ):Tree (List UInt8):=
 .ite (cL 1 ([0,0,0,0,0,0,0,0,0,0,0,0,0,0,0,0,0,0,0,0,0,0,0,0,0,0,0,0,0,0,0,0].set 0 1).length) (.opt (([0,0,0,0,0,0,0,0,0,0,0,0,0,0,0,0,0,0,0,0,0,0,0,0,0,0,0,0,0,0,0,0].set 0 1)[1]?) fun y_1=>
 .ite (cL 31 (([0,0,0,0,0,0,0,0,0,0,0,0,0,0,0,0,0,0,0,0,0,0,0,0,0,0,0,0,0,0,0,0].set 0 1).set 1 (b8 (qE (l.length:Int)))).length) (.opt ((([0,0,0,0,0,0,0,0,0,0,0,0,0,0,0,0,0,0,0,0,0,0,0,0,0,0,0,0,0,0,0,0].set 0 1).set 1 (b8 (qE (l.length:Int))))[31]?) fun y_2=>
  .opt (Ca n_ l (l.length:Int) 0 ((([0,0,0,0,0,0,0,0,0,0,0,0,0,0,0,0,0,0,0,0,0,0,0,0,0,0,0,0,0,0,0,0].set 0 1).set 1 (b8 (qE (l.length:Int)))).set 31 1)) fun r_3=>
  .ret r_3) .fail) .fail
def Dd:=fun l=>(yi n_ l).get
def mg (home:Int) (l:List bJ) (t54:List bJ) (t55:Int) (o0:aT) (ok:Bool) (r4:List (List UInt8)) (r5:List bJ) (v_:Int×aT×bd):Tree ((Int×aT×bd) ⊕ ((aT×bd×bJ) ⊕ (aT×bd))):=
 .ite (decide (v_.1<t55)) (.ite (cL v_.1 t54.length) (.opt (t54[v_.1.toNat]?) fun y_1=>
  .opt (eW (ay ((ay (home+1))+v_.1)) y_1.B v_.2.2) fun r_2=>
  ba r_2 (fun a_3=>
  .ret (.inl ((ay (v_.1+1)),{v_.2.1 with bz:=[],bM:=[]},a_3))) fun b_4=>
  .ret (.inr (.inl ({v_.2.1 with bz:=[],bM:=[]},b_4,y_1)))) .fail)
 (.ret (.inr (.inr ({v_.2.1 with bz:=[],bM:=[]},v_.2.2))))
def nO:=fun home l t54 t55 o0 ok r4 r5 v_=>(mg home l t54 t55 o0 ok r4 r5 v_).get
def yk:=fun home l t54 t55 o0 ok r4 r5 t56 x w=>iter (nO home l t54 t55 o0 ok r4 r5) n_ (t56,x,w)
def me (t79:List bJ) (t80:Int) (o0:aT) (ok:Bool) (r4:List (List UInt8)) (r5:List bJ) (v_:Int×aT×bd):Tree ((Int×aT×bd) ⊕ ((aT×bd×bJ) ⊕ (aT×bd))):=
 .ite (decide (v_.1<t80)) (.ite (cL v_.1 t79.length) (.opt (t79[v_.1.toNat]?) fun y_1=>
  .opt (eW y_1.At y_1.B v_.2.2) fun r_2=>
  ba r_2 (fun a_3=>
  .ret (.inl ((ay (v_.1+1)),{v_.2.1 with bz:=[],bM:=[]},a_3))) fun b_4=>
  .ret (.inr (.inl ({v_.2.1 with bz:=[],bM:=[]},b_4,y_1)))) .fail)
 (.ret (.inr (.inr ({v_.2.1 with bz:=[],bM:=[]},v_.2.2))))
def nN:=fun t79 t80 o0 ok r4 r5 v_=>(me t79 t80 o0 ok r4 r5 v_).get
def yj:=fun t79 t80 o0 ok r4 r5 t81 x w=>iter (nN t79 t80 o0 ok r4 r5) n_ (t81,x,w)
def tL (d:aT) (home:Int) (l:List bJ):Tree (aT×Bool):=
 .ite ((l.length:Int)==0) (.ret (d,true))
 (.opt (F4 n_ d home l) fun r_1=>
 .ite (!r_1) (.ret (d,false))
 (.opt (jZ home [0,0,0,0,0,0,0,0,0,0,0,0,0,0,0,0,0,0,0,0,0,0,0,0,0,0,0,0,0,0,0,0] (bd.mk d)) fun r_2=>
 ba r_2 (fun a_3=>
 .opt (eT n_ a_3.1) fun r_4=>
 ba r_4 (fun a_5=>
  .opt (yk n_ home l l (l.length:Int) d false a_3.2.1 a_3.2.2 0 (aT.mk [] [] 0 false) a_5) fun r_6=>
  ba r_6 (fun a_7=>
  .ret (a_7.2.1.d,false)) fun b_8=>
  .opt (eT n_ b_8.2) fun r_9=>
  ba r_9 (fun a_10=>
  .opt (Dd n_ l) fun r_11=>
  .opt (eW home r_11 a_10) fun r_12=>
  ba r_12 (fun a_13=>
   .opt (eT n_ a_13) fun r_14=>
   ba r_14 (fun a_15=>
   .opt (yj n_ l (l.length:Int) d false a_3.2.1 a_3.2.2 0 (aT.mk [] [] b_8.1.im b_8.1.Down) a_15) fun r_16=>
   ba r_16 (fun a_17=>
    .ret (a_17.2.1.d,false)) fun b_18=>
   .opt (eT n_ b_18.2) fun r_19=>
   ba r_19 (fun a_20=>
    .ret (a_20.d,true)) fun b_21=>
   .ret (b_21.d,false)) fun b_22=>
   .ret (b_22.d,false)) fun b_23=>
  .ret (b_23.d,false)) fun b_24=>
  .ret (b_24.d,false)) fun b_25=>
 .ret (b_25.d,false)) fun b_26=>
 .ret (b_26.1.d,false)))
def sZ:=fun d home l=>(tL n_ d home l).get
def r9 (a:List (List UInt8)) (t7:List (List UInt8)) (t8:Int) (v_:Int×List bJ):Tree ((Int×List bJ) ⊕ (List bJ)):=
 .ite (decide (v_.1<t8)) (.ite (cL v_.1 t7.length) (.opt (t7[v_.1.toNat]?) fun y_1=>
  .ite (decide (v_.1≥(a.length:Int))) (.ite (decide ((v_.2.length+1)≤dy)) (.ret (.inl ((ay (v_.1+1)),(v_.2++[(bJ.mk v_.1 y_1)])))) .fail)
  (.ite (cL v_.1 a.length) (.opt (a[v_.1.toNat]?) fun y_2=>
  .ite (!(y_2==y_1)) (.ite (decide ((v_.2.length+1)≤dy)) (.ret (.inl ((ay (v_.1+1)),(v_.2++[(bJ.mk v_.1 y_1)])))) .fail)
  (.ret (.inl ((ay (v_.1+1)),v_.2)))) .fail)) .fail)
 (.ret (.inr v_.2))
def tO:=fun a t7 t8 v_=>(r9 a t7 t8 v_).get
def zS:=fun a t7 t8 t9 l=>iter (tO a t7 t8) n_ (t9,l)
def vS (a:List (List UInt8)) (b:List (List UInt8)):Tree (List bJ):=
 .opt (zS n_ a b (b.length:Int) 0 []) fun r_1=>
 .ret r_1
def AQ:=fun a b=>(vS n_ a b).get
def rk (st:bZ) (s:aI):Tree (bZ×Bool):=
 .opt (oY n_ s) fun r_1=>
 .ite ((r_1.length:Int)==0) (.opt (sZ n_ st.D 0 []) fun r_2=>
 .ret ((bZ.mk r_2.1 st.S),false))
 (.opt (rj n_) fun r_3=>
 .opt (oY n_ st.S) fun r_4=>
 .opt (AQ n_ r_4 r_1) fun r_5=>
 .opt (sZ n_ st.D r_3 r_5) fun r_6=>
 .ite r_6.2 (.ret ((bZ.mk r_6.1 s),r_6.2))
 (.ret ((bZ.mk r_6.1 st.S),r_6.2)))
def iX:=fun st s=>(rk n_ st s).get
def gj (s:aI) (h:ax):Tree ((ax×List (List UInt8)×List bJ) ⊕ (ax×List (List UInt8)×List bJ)):=
 .opt (iX n_ h.Server.aB s) fun r_1=>
 .ite (!r_1.2) (.ret (.inr ((ax.mk {h.Server with aB:=r_1.1} []),h.Server.aB.D.bz,h.Server.aB.D.bM)))
 (.ret (.inl ((ax.mk {h.Server with aB:=r_1.1} []),h.Server.aB.D.bz,h.Server.aB.D.bM)))
def fw:=fun s h=>(gj n_ s h).get
def gK (a:bf) (m:bC) (h:ax):Tree ax:=
 .opt (dv a (bQ.mk 0 0 0 0 m.G2 m.aV 0 m.qo []) {h with told:=[]}) fun r_1=>
 .ret r_1
def fY:=fun a m h=>(gK a m h).get
def lC (a:bf) (h:ax):Tree ((ax×List (List UInt8)×List bJ×List bL×List bC) ⊕ (ax×List (List UInt8)×List bJ×List bL×List bC)):=
 .opt (Af n_ h.Server.aB.S a.bg a.Seq a.Name) fun r_1=>
 .opt (fw n_ r_1.1 {h with told:=[]}) fun r_2=>
 ba r_2 (fun a_3=>
 .opt (fY a r_1.2 {a_3.1 with told:=[]}) fun r_4=>
 .ret (.inl (r_4,a_3.2.1,a_3.2.2,h.Server.aB.S.aQ,h.Server.aB.S.Marks))) fun b_5=>
 .ret (.inr ({b_5.1 with told:=[]},b_5.2.1,b_5.2.2,h.Server.aB.S.aQ,h.Server.aB.S.Marks))
def nr:=fun a h=>(lC n_ a h).get
def ir (n:Int) (h:ax):Tree Bool:=
 .ite (decide (n≥1)) (.ite (decide (n≤(h.Server.aB.S.aQ.length:Int))) (.ite (cL (ay (n-1)) h.Server.aB.S.aQ.length) (.opt (h.Server.aB.S.aQ[(ay (n-1)).toNat]?) fun y_1=>
  .ret (!(y_1.Name==[]))) .fail)
 (.ret false))
 (.ret false)
def gJ:=fun n h=>(ir n h).get
def eR (x:aS) (o0:Int):Bool:=(decide (x.il≤o0))
def kc (s:List aS) (t7:Int) (o0:Int) (v_:Int):Tree (Int ⊕ (Int ⊕ Unit)):=
 .ite (decide (v_<t7)) (.ite (cL v_ s.length) (.opt (s[v_.toNat]?) fun y_1=>
  .ite (eR y_1 o0) (.ret (.inr (.inl v_)))
  (.ret (.inl (ay (v_+1))))) .fail)
 (.ret (.inr (.inr ())))
def lq:=fun s t7 o0 v_=>(kc s t7 o0 v_).get
def lr:=fun s t7 o0 t8=>iter (lq s t7 o0) n_ t8
def gY (s:List aS) (o0:Int):Tree Int:=
 .opt (lr n_ s (s.length:Int) o0 0) fun r_1=>
 ba r_1 (fun a_2=>
 .ret a_2) fun b_3=>
 .ret (-1)
def ja:=fun s o0=>(gY n_ s o0).get
def jS (o1:Int) (v_:Int×Int×List aS):Tree ((Int×Int×List aS) ⊕ (Int×List aS)):=
 .ite (decide (v_.2.1<(v_.2.2.length:Int))) (.ite (cL v_.2.1 v_.2.2.length) (.opt (v_.2.2[v_.2.1.toNat]?) fun y_1=>
  .ite (!(eR y_1 o1)) (.ite (cL v_.1 v_.2.2.length) (.opt (v_.2.2[v_.1.toNat]?) fun y_2=>
   .ret (.inl ((ay (v_.1+1)),(ay (v_.2.1+1)),(v_.2.2.set v_.1.toNat y_1)))) .fail)
  (.ret (.inl (v_.1,(ay (v_.2.1+1)),v_.2.2)))) .fail)
 (.ret (.inr (v_.1,v_.2.2)))
def kk:=fun o1 v_=>(jS o1 v_).get
def kl:=fun o1 i j s=>iter (kk o1) n_ (i,j,s)
def gx (o1:Int) (r0:List aS):Tree (List aS):=
 .opt (ja n_ r0 o1) fun r_1=>
 .ite (r_1==(-1)) (.ret r0)
 (.opt (kl n_ o1 r_1 (ay (r_1+1)) r0) fun r_2=>
 .ite (cL r_2.1 r_2.2.length) (.ret (eD r_2.2 0 r_2.1)) .fail)
def mT:=fun o1 r0=>(gx n_ o1 r0).get
def tG (l:List aS) (now:Int):Tree (List aS):=
 .opt (mT n_ now l) fun r_1=>
 .ret r_1
def x7:=fun l now=>(tG n_ l now).get
def tW (d:bR) (now:Int):Tree bR:=
 .opt (x7 n_ d.bD now) fun r_1=>
 .ret (bR.mk r_1 d.cW)
def yy:=fun d now=>(tW n_ d now).get
def l6 (x:Int):Bool:=(x != x)
def nX (x:Int) (y:Int):TT Int:=
 .ite (l6 x) (.ite (l6 y) (.ret 0)
 (.ret (-1)))
 (.ite (l6 y) (.ret 1)
 (.ite (decide (x<y)) (.ret (-1))
 (.ite (decide (x>y)) (.ret 1)
 (.ret 0))))
def mi:=fun x y=>(nX x y).val
def yH (zero:Int) (t6:List Int) (t7:Int) (v_:Int):Tree (Int ⊕ (Int ⊕ Unit)):=
 .ite (decide (v_<t7)) (.ite (cL v_ t6.length) (.opt (t6[v_.toNat]?) fun y_1=>
  .ite (y_1 != zero) (.ret (.inr (.inl y_1)))
  (.ret (.inl (ay (v_+1))))) .fail)
 (.ret (.inr (.inr ())))
def po:=fun zero t6 t7 v_=>(yH zero t6 t7 v_).get
def zX:=fun zero t6 t7 t8=>iter (po zero t6 t7) n_ t8
def wC (vals:List Int):Tree Int:=
 .opt (zX n_ 0 vals (vals.length:Int) 0) fun r_1=>
 ba r_1 (fun a_2=>
 .ret a_2) fun b_3=>
 .ret 0
def Be:=fun vals=>(wC n_ vals).get
def tF (a:aS) (b:aS):Tree Int:=
 .opt (Be n_ [(mi a.aV b.aV),(mi a.Client b.Client)]) fun r_1=>
 .ret r_1
def sW:=fun a b=>(tF n_ a b).get
def eC (x:List aS) (n:Int) (target:aS) (v_:Int×Int):Tree ((Int×Int) ⊕ Int):=
 .ite (decide (v_.1<v_.2)) (.ite (cL (ay (rv .u64 (uP (ay (v_.1+v_.2))) 1)) x.length) (.opt (x[(ay (rv .u64 (uP (ay (v_.1+v_.2))) 1)).toNat]?) fun y_1=>
  .opt (sW n_ y_1 target) fun r_2=>
  .ite (decide (r_2<0)) (.ret (.inl ((ay ((ay (rv .u64 (uP (ay (v_.1+v_.2))) 1))+1)),v_.2)))
  (.ret (.inl (v_.1,(ay (rv .u64 (uP (ay (v_.1+v_.2))) 1)))))) .fail)
 (.ret (.inr v_.1))
def eM:=fun x n target v_=>(eC n_ x n target v_).get
def gI:=fun x n target i j=>iter (eM n_ x n target) n_ (i,j)
def e8 (x:List aS) (target:aS):Tree (Int×Bool):=
 .opt (gI n_ x (x.length:Int) target 0 (x.length:Int)) fun r_1=>
 .ite (decide (r_1<(x.length:Int))) (.ite (cL r_1 x.length) (.opt (x[r_1.toNat]?) fun y_2=>
  .opt (sW n_ y_2 target) fun r_3=>
  .ret (r_1,(r_3==0))) .fail)
 (.ret (r_1,false))
def dV:=fun x target=>(e8 n_ x target).get
def tH (l:List aS) (now:Int) (aU:Int) (file:Int):Tree Int:=
 .opt (dV n_ l (aS.mk aU file 0 0)) fun r_1=>
 .ite (!r_1.2) (.ret 0)
 (.ite (cL r_1.1 l.length) (.opt (l[r_1.1.toNat]?) fun y_2=>
 .ite (decide (now≥y_2.il)) (.ret 0)
 (.ite (cL r_1.1 l.length) (.opt (l[r_1.1.toNat]?) fun y_3=>
  .ret y_3.Mode) .fail)) .fail)
def pG:=fun l now aU file=>(tH n_ l now aU file).get
def qj (l:List aS) (now:Int) (aU:Int) (file:Int) (mode:Int) (t14:List aS) (t15:Int) (v_:Int×List Int):Tree ((Int×List Int) ⊕ (List Int)):=
 .ite (decide (v_.1<t15)) (.ite (cL v_.1 t14.length) (.opt (t14[v_.1.toNat]?) fun y_1=>
  .ite (y_1.aV != file) (.ret (.inl ((ay (v_.1+1)),v_.2)))
  (.ite (y_1.Client==aU) (.ret (.inl ((ay (v_.1+1)),v_.2)))
  (.opt (pG n_ l now y_1.Client file) fun r_2=>
  .ite (r_2 != 0) (.ite (mode==2) (.ite (decide ((v_.2.length+1)≤dy)) (.ret (.inl ((ay (v_.1+1)),(v_.2++[y_1.Client])))) .fail)
  (.ite (r_2==2) (.ite (decide ((v_.2.length+1)≤dy)) (.ret (.inl ((ay (v_.1+1)),(v_.2++[y_1.Client])))) .fail)
  (.ret (.inl ((ay (v_.1+1)),v_.2)))))
  (.ret (.inl ((ay (v_.1+1)),v_.2)))))) .fail)
 (.ret (.inr v_.2))
def rW:=fun l now aU file mode t14 t15 v_=>(qj n_ l now aU file mode t14 t15 v_).get
def x9:=fun l now aU file mode t14 t15 t16 out=>iter (rW n_ l now aU file mode t14 t15) n_ (t16,out)
def tJ (l:List aS) (now:Int) (aU:Int) (file:Int) (mode:Int):Tree (List Int):=
 .opt (x9 n_ l now aU file mode l (l.length:Int) 0 []) fun r_1=>
 .ret r_1
def pH:=fun l now aU file mode=>(tJ n_ l now aU file mode).get
def qN (d:bR) (now:Int) (w:bA):Tree (List Int):=
 .opt (pH n_ d.bD now w.Client w.aV w.Mode) fun r_1=>
 .ret r_1
def o5:=fun d now w=>(qN n_ d now w).get
def rV (aU:Int) (file:Int) (t9:List bA) (t10:Int) (v_:Int):Tree (Int ⊕ ((Bool×bA) ⊕ Unit)):=
 .ite (decide (v_<t10)) (.ite (cL v_ t9.length) (.opt (t9[v_.toNat]?) fun y_1=>
  .ite (y_1.aV != file) (.ret (.inl (ay (v_+1))))
  (.ret (.inr (.inl ((y_1.Client != aU),y_1))))) .fail)
 (.ret (.inr (.inr ())))
def tE:=fun aU file t9 t10 v_=>(rV aU file t9 t10 v_).get
def zO:=fun aU file t9 t10 t11=>iter (tE aU file t9 t10) n_ t11
def vE (l:List bA) (aU:Int) (file:Int):Tree Bool:=
 .opt (zO n_ aU file l (l.length:Int) 0) fun r_1=>
 ba r_1 (fun a_2=>
 .ret a_2.1) fun b_3=>
 .ret false
def AI:=fun l aU file=>(vE n_ l aU file).get
def A8 (d:bR) (now:Int) (w:bA):Tree Bool:=
 .opt (o5 n_ d now w) fun r_1=>
 .ite ((r_1.length:Int)==0) (.opt (AI n_ d.cW w.Client w.aV) fun r_2=>
 .ret (!r_2))
 (.ret false)
def Gw:=fun d now w=>(A8 n_ d now w).get
def yJ (a:Int) (b:Int):TT Int:=
 .ite (decide (a>0)) (.ite (decide (b>(ay (9223372036854775807-a)))) (.ret 9223372036854775807)
 (.ret (ay (a+b))))
 (.ret (ay (a+b)))
def m9:=fun a b=>(yJ a b).val
def tI (l:List aS) (x:aS):Tree (List aS):=
 .opt (dV n_ l x) fun r_1=>
 .ite (!r_1.2) (.ite (Cb l r_1.1 [x]) (.ret (zw l r_1.1 [x])) .fail)
 (.ite (cL r_1.1 l.length) (.opt (l[r_1.1.toNat]?) fun y_2=>
 .ite (cL r_1.1 l.length) (.opt (l[r_1.1.toNat]?) fun y_3=>
  .ite (cL r_1.1 l.length) (.opt (l[r_1.1.toNat]?) fun y_4=>
  .ite (cL r_1.1 (l.set r_1.1.toNat {y_4 with Mode:=(imax y_2.Mode x.Mode)}).length) (.opt ((l.set r_1.1.toNat {y_4 with Mode:=(imax y_2.Mode x.Mode)})[r_1.1.toNat]?) fun y_5=>
   .ret ((l.set r_1.1.toNat {y_4 with Mode:=(imax y_2.Mode x.Mode)}).set r_1.1.toNat {y_5 with il:=(imax y_3.il x.il)})) .fail) .fail) .fail) .fail)
def x8:=fun l x=>(tI n_ l x).get
def fL (w:bA) (o0:Int):Bool:=(w.Client==o0)
def ll (s:List bA) (t7:Int) (o0:Int) (v_:Int):Tree (Int ⊕ (Int ⊕ Unit)):=
 .ite (decide (v_<t7)) (.ite (cL v_ s.length) (.opt (s[v_.toNat]?) fun y_1=>
  .ite (fL y_1 o0) (.ret (.inr (.inl v_)))
  (.ret (.inl (ay (v_+1))))) .fail)
 (.ret (.inr (.inr ())))
def lR:=fun s t7 o0 v_=>(ll s t7 o0 v_).get
def lS:=fun s t7 o0 t8=>iter (lR s t7 o0) n_ t8
def iD (s:List bA) (o0:Int):Tree Int:=
 .opt (lS n_ s (s.length:Int) o0 0) fun r_1=>
 ba r_1 (fun a_2=>
 .ret a_2) fun b_3=>
 .ret (-1)
def jx:=fun s o0=>(iD n_ s o0).get
def kj (o1:Int) (v_:Int×Int×List bA):Tree ((Int×Int×List bA) ⊕ (Int×List bA)):=
 .ite (decide (v_.2.1<(v_.2.2.length:Int))) (.ite (cL v_.2.1 v_.2.2.length) (.opt (v_.2.2[v_.2.1.toNat]?) fun y_1=>
  .ite (!(fL y_1 o1)) (.ite (cL v_.1 v_.2.2.length) (.opt (v_.2.2[v_.1.toNat]?) fun y_2=>
   .ret (.inl ((ay (v_.1+1)),(ay (v_.2.1+1)),(v_.2.2.set v_.1.toNat y_1)))) .fail)
  (.ret (.inl (v_.1,(ay (v_.2.1+1)),v_.2.2)))) .fail)
 (.ret (.inr (v_.1,v_.2.2)))
def lu:=fun o1 v_=>(kj o1 v_).get
def lx:=fun o1 i j s=>iter (lu o1) n_ (i,j,s)
def hH (o1:Int) (r0:List bA):Tree (List bA):=
 .opt (jx n_ r0 o1) fun r_1=>
 .ite (r_1==(-1)) (.ret r0)
 (.opt (lx n_ o1 r_1 (ay (r_1+1)) r0) fun r_2=>
 .ite (cL r_2.1 r_2.2.length) (.ret (eD r_2.2 0 r_2.1)) .fail)
def np:=fun o1 r0=>(hH n_ o1 r0).get
def sV (l:List bA) (aU:Int):Tree (List bA):=
 .opt (np n_ aU l) fun r_1=>
 .ret r_1
def qV:=fun l aU=>(sV n_ l aU).get
def yz (d:bR) (now:Int) (w:bA):Tree bR:=
 .opt (x8 n_ d.bD (aS.mk w.Client w.aV w.Mode (m9 now 60))) fun r_1=>
 .opt (qV n_ d.cW w.Client) fun r_2=>
 .ret (bR.mk r_1 r_2)
def Dw:=fun d now w=>(yz n_ d now w).get
def lX (w:bA) (o0:Int):Bool:=(w.Client==o0)
def jO (s:List bA) (t7:Int) (o0:Int) (v_:Int):Tree (Int ⊕ (Int ⊕ Unit)):=
 .ite (decide (v_<t7)) (.ite (cL v_ s.length) (.opt (s[v_.toNat]?) fun y_1=>
  .ite (lX y_1 o0) (.ret (.inr (.inl v_)))
  (.ret (.inl (ay (v_+1))))) .fail)
 (.ret (.inr (.inr ())))
def ka:=fun s t7 o0 v_=>(jO s t7 o0 v_).get
def kb:=fun s t7 o0 t8=>iter (ka s t7 o0) n_ t8
def gr (s:List bA) (o0:Int):Tree Int:=
 .opt (kb n_ s (s.length:Int) o0 0) fun r_1=>
 ba r_1 (fun a_2=>
 .ret a_2) fun b_3=>
 .ret (-1)
def mQ:=fun s o0=>(gr n_ s o0).get
def vD (l:List bA) (aU:Int):Tree Int:=
 .opt (mQ n_ l aU) fun r_1=>
 .ret r_1
def AG:=fun l aU=>(vD n_ l aU).get
def AH (l:List bA) (w:bA):Tree (List bA×Bool):=
 .opt (AG n_ l w.Client) fun r_1=>
 .ite (decide (r_1≥0)) (.ite (cL r_1 l.length) (.opt (l[r_1.toNat]?) fun y_2=>
  .ite (y_2.aV==w.aV) (.ite (cL r_1 l.length) (.opt (l[r_1.toNat]?) fun y_3=>
   .ret ((l.set r_1.toNat w),true)) .fail)
  (.opt (qV n_ l w.Client) fun r_4=>
  .ite (decide ((r_4.length:Int)≥4)) (.ret (l,false))
  (.ite (decide ((r_4.length+1)≤dy)) (.ret ((r_4++[w]),true)) .fail))) .fail)
 (.opt (qV n_ l w.Client) fun r_5=>
 .ite (decide ((r_5.length:Int)≥4)) (.ret (l,false))
 (.ite (decide ((r_5.length+1)≤dy)) (.ret ((r_5++[w]),true)) .fail))
def FW:=fun l w=>(AH n_ l w).get
def A9 (d:bR) (now:Int) (w:bA):Tree (bR×Bool×List Int×Int):=
 .opt (yy n_ d now) fun r_1=>
 .opt (Gw n_ r_1 now w) fun r_2=>
 .ite r_2 (.opt (Dw n_ r_1 now w) fun r_3=>
 .ret (r_3,true,[],0))
 (.opt (FW n_ r_1.cW w) fun r_4=>
 .ite (!r_4.2) (.ret (r_1,false,[],3))
 (.opt (o5 n_ {r_1 with cW:=r_4.1} now w) fun r_5=>
 .ret ({r_1 with cW:=r_4.1},false,r_5,0)))
def Gx:=fun d now w=>(A9 n_ d now w).get
def mo (w:bA) (h:ax):Tree (ax ⊕ ax):=
 .opt (pG n_ h.Server.aY.bD h.Server.gD w.Client w.aV) fun r_1=>
 .opt (gJ w.aV {h with told:=[]}) fun r_2=>
 .ite r_2 (.ite (cL (ay (w.aV-1)) h.Server.aB.S.aQ.length) (.opt (h.Server.aB.S.aQ[(ay (w.aV-1)).toNat]?) fun y_3=>
  .opt (iI w.Client (bQ.mk 0 0 0 w.Seq 0 w.aV r_1 y_3.qo y_3.Body) {h with told:=[]}) fun r_4=>
  .ret (.inr r_4)) .fail)
 (.opt (iI w.Client (bQ.mk 0 0 0 w.Seq 0 w.aV r_1 0 []) {h with told:=[]}) fun r_5=>
 .ret (.inl r_5))
def oC:=fun w h=>(mo n_ w h).get
def lE (aU:Int) (file:Int) (h:ax):Tree ax:=
 .ite (decide ((h.told.length+1)≤dy)) (.ret ({h with told:=(h.told++[(bQ.mk 2 aU h.Server.aB.S.aP 0 0 file 0 0 [])])})) .fail
def gL:=fun aU file h=>(lE aU file h).get
def zu (aU:Int) (file:Int) (h:ax):ax:=({h with told:=[(bQ.mk 2 aU h.Server.aB.S.aP 0 0 file 0 0 [])]})
def oz (t64:List Int) (t65:Int) (a:bf) (o10:bA) (o11:bR) (r5:List aS) (r6:List bA) (v_:Int×ax):Tree ((Int×ax) ⊕ ax):=
 .ite (decide (v_.1<t65)) (.ite (cL v_.1 t64.length) (.opt (t64[v_.1.toNat]?) fun y_1=>
  .opt (gL y_1 a.aV v_.2) fun r_2=>
  .ret (.inl ((ay (v_.1+1)),r_2))) .fail)
 (.ret (.inr v_.2))
def xy:=fun t64 t65 a o10 o11 r5 r6 v_=>(oz t64 t65 a o10 o11 r5 r6 v_).get
def eu:=fun t64 t65 a o10 o11 r5 r6 t66 h=>iter (xy t64 t65 a o10 o11 r5 r6) n_ (t66,h)
def oy (t64:List Int) (t65:Int) (a:bf) (o10:bA) (o11:bR) (r5:List aS) (r6:List bA) (v_:Int×ax):Tree ((Int×ax) ⊕ ax):=
 .ite (decide (v_.1<t65)) (.ite (cL v_.1 t64.length) (.opt (t64[v_.1.toNat]?) fun y_1=>
  .opt (gL y_1 a.aV v_.2) fun r_2=>
  .ret (.inl ((ay (v_.1+1)),r_2))) .fail)
 (.ret (.inr v_.2))
def xx:=fun t64 t65 a o10 o11 r5 r6 v_=>(oy t64 t65 a o10 o11 r5 r6 v_).get
def ko:=fun t64 t65 a o10 o11 r5 r6 t66 h=>iter (xx t64 t65 a o10 o11 r5 r6) n_ (t66,h)
def ox (t64:List Int) (t65:Int) (a:bf) (o10:bA) (o11:bR) (r5:List aS) (r6:List bA) (v_:Int×ax):Tree ((Int×ax) ⊕ ax):=
 .ite (decide (v_.1<t65)) (.ite (cL v_.1 t64.length) (.opt (t64[v_.1.toNat]?) fun y_1=>
  .opt (gL y_1 a.aV v_.2) fun r_2=>
  .ret (.inl ((ay (v_.1+1)),r_2))) .fail)
 (.ret (.inr v_.2))
def pz:=fun t64 t65 a o10 o11 r5 r6 v_=>(ox t64 t65 a o10 o11 r5 r6 v_).get
def pA:=fun t64 t65 a o10 o11 r5 r6 t66 h=>iter (pz t64 t65 a o10 o11 r5 r6) n_ (t66,h)
def lD (a:bf) (h:ax):Tree (ax ⊕ ((ax×List aS×List bA) ⊕ ((ax×List aS×List bA) ⊕ (ax×List aS×List bA)))):=
 .opt (gJ a.aV {h with told:=[]}) fun r_1=>
 .ite (!r_1) (.opt (dv a (bQ.mk 0 0 0 0 2 0 0 0 []) {h with told:=[]}) fun r_2=>
 .ret (.inl r_2))
 (.opt (Gx n_ h.Server.aY h.Server.gD (bA.mk a.bg a.Seq a.aV a.Mode)) fun r_3=>
 .ite r_3.2.1 (.opt (oC n_ (bA.mk a.bg a.Seq a.aV a.Mode) (ax.mk {h.Server with aY:=r_3.1} [])) fun r_4=>
 ba r_4 (fun a_5=>
  .opt (eu n_ r_3.2.2.1 (r_3.2.2.1.length:Int) a (bA.mk a.bg a.Seq a.aV a.Mode) r_3.1 h.Server.aY.bD h.Server.aY.cW 0 a_5) fun r_6=>
  .ret (.inr (.inr (.inl (r_6,h.Server.aY.bD,h.Server.aY.cW))))) fun b_7=>
 .opt (ko n_ r_3.2.2.1 (r_3.2.2.1.length:Int) a (bA.mk a.bg a.Seq a.aV a.Mode) r_3.1 h.Server.aY.bD h.Server.aY.cW 0 b_7) fun r_8=>
 .ret (.inr (.inr (.inr (r_8,h.Server.aY.bD,h.Server.aY.cW)))))
 (.ite (r_3.2.2.2 != 0) (.opt (dv a (bQ.mk 0 0 0 0 r_3.2.2.2 0 0 0 []) (ax.mk {h.Server with aY:=r_3.1} [])) fun r_9=>
 .opt (eu n_ r_3.2.2.1 (r_3.2.2.1.length:Int) a (bA.mk a.bg a.Seq a.aV a.Mode) r_3.1 h.Server.aY.bD h.Server.aY.cW 0 r_9) fun r_10=>
 .ret (.inr (.inr (.inl (r_10,h.Server.aY.bD,h.Server.aY.cW)))))
 (.opt (pA n_ r_3.2.2.1 (r_3.2.2.1.length:Int) a (bA.mk a.bg a.Seq a.aV a.Mode) r_3.1 h.Server.aY.bD h.Server.aY.cW 0 (ax.mk {h.Server with aY:=r_3.1} [])) fun r_11=>
 .ret (.inr (.inl (r_11,h.Server.aY.bD,h.Server.aY.cW))))))
def ns:=fun a h=>(lD n_ a h).get
def tp (n:Int) (s:aI):Tree (Nat ⊕ Unit):=
 .ite (decide (n<1)) (.ret (.inr ()))
 (.ite (decide (n>(s.aQ.length:Int))) (.ret (.inr ()))
 (.ite (cL (ay (n-1)) s.aQ.length) (.opt (s.aQ[(ay (n-1)).toNat]?) fun y_1=>
 .ite (y_1.Name==[]) (.ret (.inr ()))
 (.ite (cL (ay (n-1)) s.aQ.length) (.ret (.inl ((ay (n-1)).toNat))) .fail)) .fail))
def sI:=fun n s=>(tp n s).get
def fp (w:aX):Bool:=(!(bU w))
def jq (s:List aX) (t7:Int) (v_:Int):Tree (Int ⊕ (Int ⊕ Unit)):=
 .ite (decide (v_<t7)) (.ite (cL v_ s.length) (.opt (s[v_.toNat]?) fun y_1=>
  .ite (fp y_1) (.ret (.inr (.inl v_)))
  (.ret (.inl (ay (v_+1))))) .fail)
 (.ret (.inr (.inr ())))
def jL:=fun s t7 v_=>(jq s t7 v_).get
def jM:=fun s t7 t8=>iter (jL s t7) n_ t8
def fT (s:List aX):Tree Int:=
 .opt (jM n_ s (s.length:Int) 0) fun r_1=>
 ba r_1 (fun a_2=>
 .ret a_2) fun b_3=>
 .ret (-1)
def lQ:=fun s=>(fT n_ s).get
def fk (s:List aX):Tree Bool:=
 .opt (lQ n_ s) fun r_1=>
 .ret (decide (r_1≥0))
def fK:=fun s=>(fk n_ s).get
def AV (body:List UInt8) (w:aX):Tree (List UInt8):=
 .ite (!(bU w)) (.ret body)
 (.ite (decide ((ay (w.og-(body.length:Int)))>0)) (.ite (Fw ([0]:List UInt8) (ay (w.og-(body.length:Int)))) (.ite (decide ((body.length+(pW ([0]:List UInt8) (ay (w.og-(body.length:Int)))).length)≤dy)) (.ite (j2 0 w.og (body++(pW ([0]:List UInt8) (ay (w.og-(body.length:Int))))).length) (.ite (decide (((eD (body++(pW ([0]:List UInt8) (ay (w.og-(body.length:Int))))) 0 w.og).length+w.B.length)≤dy)) (.ite (j2 (jE (ay (w.og+(w.B.length:Int))) ((body++(pW ([0]:List UInt8) (ay (w.og-(body.length:Int))))).length:Int)) ((body++(pW ([0]:List UInt8) (ay (w.og-(body.length:Int))))).length:Int) (body++(pW ([0]:List UInt8) (ay (w.og-(body.length:Int))))).length) (.ite (decide ((((eD (body++(pW ([0]:List UInt8) (ay (w.og-(body.length:Int))))) 0 w.og)++w.B).length+(eD (body++(pW ([0]:List UInt8) (ay (w.og-(body.length:Int))))) (jE (ay (w.og+(w.B.length:Int))) ((body++(pW ([0]:List UInt8) (ay (w.og-(body.length:Int))))).length:Int)) ((body++(pW ([0]:List UInt8) (ay (w.og-(body.length:Int))))).length:Int)).length)≤dy)) (.ret (((eD (body++(pW ([0]:List UInt8) (ay (w.og-(body.length:Int))))) 0 w.og)++w.B)++(eD (body++(pW ([0]:List UInt8) (ay (w.og-(body.length:Int))))) (jE (ay (w.og+(w.B.length:Int))) ((body++(pW ([0]:List UInt8) (ay (w.og-(body.length:Int))))).length:Int)) ((body++(pW ([0]:List UInt8) (ay (w.og-(body.length:Int))))).length:Int)))) .fail) .fail) .fail) .fail) .fail) .fail)
 (.ite (j2 0 w.og body.length) (.ite (decide (((eD body 0 w.og).length+w.B.length)≤dy)) (.ite (j2 (jE (ay (w.og+(w.B.length:Int))) (body.length:Int)) (body.length:Int) body.length) (.ite (decide ((((eD body 0 w.og)++w.B).length+(eD body (jE (ay (w.og+(w.B.length:Int))) (body.length:Int)) (body.length:Int)).length)≤dy)) (.ret (((eD body 0 w.og)++w.B)++(eD body (jE (ay (w.og+(w.B.length:Int))) (body.length:Int)) (body.length:Int)))) .fail) .fail) .fail) .fail))
def Gd:=fun body w=>(AV body w).get
def v8 (t7:List aX) (t8:Int) (v_:List UInt8×Int):Tree ((List UInt8×Int) ⊕ (List UInt8)):=
 .ite (decide (v_.2<t8)) (.ite (cL v_.2 t7.length) (.opt (t7[v_.2.toNat]?) fun y_1=>
  .opt (Gd v_.1 y_1) fun r_2=>
  .ret (.inl (r_2,(ay (v_.2+1))))) .fail)
 (.ret (.inr v_.1))
def yr:=fun t7 t8 v_=>(v8 t7 t8 v_).get
def Ec:=fun t7 t8 body t9=>iter (yr t7 t8) n_ (body,t9)
def AW (body:List UInt8) (l:List aX):Tree (List UInt8):=
 .opt (Ec n_ l (l.length:Int) body 0) fun r_1=>
 .ret r_1
def Ge:=fun body l=>(AW n_ body l).get
def oB (s:aI) (o3:Int) (o4:List aX):Tree ((bC×aI) ⊕ cN):=
 .opt (sI o3 s) fun r_1=>
 ba r_1 (fun a_2=>
 .ite ((o4.length:Int)==0) (.ret (.inr (cN.mk 1)))
 (.ite (decide ((o4.length:Int)>5)) (.ret (.inr (cN.mk 1)))
 (.opt (fK n_ o4) fun r_3=>
 .ite r_3 (.ret (.inr (cN.mk 1)))
 (.opt (s.aQ[a_2]?) fun y_4=>
 .opt (Ge n_ y_4.Body o4) fun r_5=>
 .opt (s.aQ[a_2]?) fun y_6=>
 .opt (s.aQ[a_2]?) fun y_7=>
 .opt ((s.aQ.set a_2 {y_7 with Body:=r_5})[a_2]?) fun y_8=>
 .opt (((s.aQ.set a_2 {y_7 with Body:=r_5}).set a_2 {y_8 with qo:=(jE (ay (y_6.qo+1)) 1073741824)})[a_2]?) fun y_9=>
 .ret (.inl ((bC.mk 0 0 o3 y_9.qo),{s with aQ:=((s.aQ.set a_2 {y_7 with Body:=r_5}).set a_2 {y_8 with qo:=(jE (ay (y_6.qo+1)) 1073741824)})})))))) fun b_10=>
 .ret (.inr (cN.mk 2))
def xj:=fun s o3 o4=>(oB n_ s o3 o4).get
def rm (s:aI) (aU:Int) (seq:Int) (o0:Int) (o1:List aX):Tree (aI×bC):=
 .opt (xj n_ s o0 o1) fun r_1=>
 ba r_1 (fun a_2=>
 .opt (pD a_2.2.Marks aU {a_2.1 with Seq:=seq}) fun r_3=>
 .ret ({a_2.2 with Marks:=r_3},{a_2.1 with Seq:=seq})) fun b_4=>
 .opt (pD s.Marks aU (bC.mk seq b_4.e 0 0)) fun r_5=>
 .ret ({s with Marks:=r_5},(bC.mk seq b_4.e 0 0))
def BC:=fun s aU seq o0 o1=>(rm n_ s aU seq o0 o1).get
def tt (s:aI) (aU:Int) (seq:Int) (n:Int) (l:List aX):Tree (aI×bC):=
 .opt (BC n_ s aU seq n l) fun r_1=>
 .ret (r_1.1,r_1.2)
def xk:=fun s aU seq n l=>(tt n_ s aU seq n l).get
def jB (a:bf) (h:ax):Tree (ax ⊕ ((ax×List (List UInt8)×List bJ×List bL×List bC) ⊕ (ax×List (List UInt8)×List bJ×List bL×List bC))):=
 .opt (pG n_ h.Server.aY.bD h.Server.gD a.bg a.aV) fun r_1=>
 .ite (r_1 != 2) (.opt (dv a (bQ.mk 0 0 0 0 6 0 0 0 []) {h with told:=[]}) fun r_2=>
 .ret (.inl r_2))
 (.opt (gJ a.aV {h with told:=[]}) fun r_3=>
 .ite (!r_3) (.opt (dv a (bQ.mk 0 0 0 0 6 0 0 0 []) {h with told:=[]}) fun r_4=>
 .ret (.inl r_4))
 (.opt (xk n_ h.Server.aB.S a.bg a.Seq a.aV a.aN) fun r_5=>
 .opt (fw n_ r_5.1 {h with told:=[]}) fun r_6=>
 ba r_6 (fun a_7=>
 .opt (fY a r_5.2 {a_7.1 with told:=[]}) fun r_8=>
 .ret (.inr (.inl (r_8,a_7.2.1,a_7.2.2,h.Server.aB.S.aQ,h.Server.aB.S.Marks)))) fun b_9=>
 .ret (.inr (.inr ({b_9.1 with told:=[]},b_9.2.1,b_9.2.2,h.Server.aB.S.aQ,h.Server.aB.S.Marks)))))
def iu:=fun a h=>(jB n_ a h).get
def qi (x:aS) (o0:Int) (o1:Int):TT Bool:=
 .ite (x.Client==o0) (.ret (x.aV==o1))
 (.ret false)
def eI:=fun x o0 o1=>(qi x o0 o1).val
def jr (s:List aS) (t7:Int) (o0:Int) (o1:Int) (v_:Int):Tree (Int ⊕ (Int ⊕ Unit)):=
 .ite (decide (v_<t7)) (.ite (cL v_ s.length) (.opt (s[v_.toNat]?) fun y_1=>
  .ite (eI y_1 o0 o1) (.ret (.inr (.inl v_)))
  (.ret (.inl (ay (v_+1))))) .fail)
 (.ret (.inr (.inr ())))
def jP:=fun s t7 o0 o1 v_=>(jr s t7 o0 o1 v_).get
def jQ:=fun s t7 o0 o1 t8=>iter (jP s t7 o0 o1) n_ t8
def fU (s:List aS) (o0:Int) (o1:Int):Tree Int:=
 .opt (jQ n_ s (s.length:Int) o0 o1 0) fun r_1=>
 ba r_1 (fun a_2=>
 .ret a_2) fun b_3=>
 .ret (-1)
def gZ:=fun s o0 o1=>(fU n_ s o0 o1).get
def iQ (o1:Int) (o2:Int) (v_:Int×Int×List aS):Tree ((Int×Int×List aS) ⊕ (Int×List aS)):=
 .ite (decide (v_.2.1<(v_.2.2.length:Int))) (.ite (cL v_.2.1 v_.2.2.length) (.opt (v_.2.2[v_.2.1.toNat]?) fun y_1=>
  .ite (!(eI y_1 o1 o2)) (.ite (cL v_.1 v_.2.2.length) (.opt (v_.2.2[v_.1.toNat]?) fun y_2=>
   .ret (.inl ((ay (v_.1+1)),(ay (v_.2.1+1)),(v_.2.2.set v_.1.toNat y_1)))) .fail)
  (.ret (.inl (v_.1,(ay (v_.2.1+1)),v_.2.2)))) .fail)
 (.ret (.inr (v_.1,v_.2.2)))
def js:=fun o1 o2 v_=>(iQ o1 o2 v_).get
def jt:=fun o1 o2 i j s=>iter (js o1 o2) n_ (i,j,s)
def fI (o1:Int) (o2:Int) (r0:List aS):Tree (List aS):=
 .opt (gZ n_ r0 o1 o2) fun r_1=>
 .ite (r_1==(-1)) (.ret r0)
 (.opt (jt n_ o1 o2 r_1 (ay (r_1+1)) r0) fun r_2=>
 .ite (cL r_2.1 r_2.2.length) (.ret (eD r_2.2 0 r_2.1)) .fail)
def ly:=fun o1 o2 r0=>(fI n_ o1 o2 r0).get
def vG (l:List aS) (aU:Int) (file:Int):Tree (List aS):=
 .opt (ly n_ aU file l) fun r_1=>
 .ret r_1
def AK:=fun l aU file=>(vG n_ l aU file).get
def yA (d:bR) (aU:Int) (file:Int):Tree bR:=
 .opt (AK n_ d.bD aU file) fun r_1=>
 .ret (bR.mk r_1 d.cW)
def o6:=fun d aU file=>(yA n_ d aU file).get
def iG (a:bf) (h:ax):Tree ((ax×List aS×List bA) ⊕ ((ax×List aS×List bA) ⊕ ((ax×List (List UInt8)×List bJ×List bL×List bC×List aS×List bA) ⊕ (ax×List (List UInt8)×List bJ×List bL×List bC)))):=
 .ite (decide ((a.aN.length:Int)>0)) (.opt (iu n_ a {h with told:=[]}) fun r_1=>
 ba r_1 (fun a_2=>
  .opt (o6 n_ a_2.Server.aY a.bg a.aV) fun r_3=>
  .ret (.inr (.inl ({a_2 with Server:={a_2.Server with aY:=r_3}},a_2.Server.aY.bD,a_2.Server.aY.cW)))) fun b_4=>
 ba b_4 (fun a_5=>
  .opt (o6 n_ a_5.1.Server.aY a.bg a.aV) fun r_6=>
  .ret (.inr (.inr (.inl ({a_5.1 with Server:={a_5.1.Server with aY:=r_6}},a_5.2.1,a_5.2.2.1,a_5.2.2.2.1,a_5.2.2.2.2,a_5.1.Server.aY.bD,a_5.1.Server.aY.cW))))) fun b_7=>
 .ret (.inr (.inr (.inr ({b_7.1 with told:=[]},b_7.2.1,b_7.2.2.1,b_7.2.2.2.1,b_7.2.2.2.2)))))
 (.opt (dv a (bQ.mk 0 0 0 0 0 a.aV 0 0 []) {h with told:=[]}) fun r_8=>
 .opt (o6 n_ r_8.Server.aY a.bg a.aV) fun r_9=>
 .ret (.inl ({r_8 with Server:={r_8.Server with aY:=r_9}},r_8.Server.aY.bD,r_8.Server.aY.cW)))
def jA:=fun a h=>(iG n_ a h).get
def iH (w:bA) (o0:Int) (o1:Int):TT Bool:=
 .ite (w.aV==o0) (.ret (w.Client != o1))
 (.ret false)
def dx:=fun w o0 o1=>(iH w o0 o1).val
def jN (s:List bA) (t7:Int) (o0:Int) (o1:Int) (v_:Int):Tree (Int ⊕ (Int ⊕ Unit)):=
 .ite (decide (v_<t7)) (.ite (cL v_ s.length) (.opt (s[v_.toNat]?) fun y_1=>
  .ite (dx y_1 o0 o1) (.ret (.inr (.inl v_)))
  (.ret (.inl (ay (v_+1))))) .fail)
 (.ret (.inr (.inr ())))
def j8:=fun s t7 o0 o1 v_=>(jN s t7 o0 o1 v_).get
def j9:=fun s t7 o0 o1 t8=>iter (j8 s t7 o0 o1) n_ t8
def gq (s:List bA) (o0:Int) (o1:Int):Tree Int:=
 .opt (j9 n_ s (s.length:Int) o0 o1 0) fun r_1=>
 ba r_1 (fun a_2=>
 .ret a_2) fun b_3=>
 .ret (-1)
def mP:=fun s o0 o1=>(gq n_ s o0 o1).get
def fV (s:List bA) (o0:Int) (o1:Int):Tree Bool:=
 .opt (mP n_ s o0 o1) fun r_1=>
 .ret (decide (r_1≥0))
def hU:=fun s o0 o1=>(fV n_ s o0 o1).get
def kn (aU:Int) (file:Int) (h:ax):Tree (Bool×ax):=
 .opt (pH n_ h.Server.aY.bD h.Server.gD aU file 2) fun r_1=>
 .ite (decide ((r_1.length:Int)>0)) (.ret (true,{h with told:=[]}))
 (.opt (hU n_ h.Server.aY.cW file aU) fun r_2=>
 .ret (r_2,{h with told:=[]}))
def mn:=fun aU file h=>(kn n_ aU file h).get
def pV (s:aI) (o3:Int):Tree ((bC×aI) ⊕ Unit):=
 .opt (sI o3 s) fun r_1=>
 ba r_1 (fun a_2=>
 .opt (s.aQ[a_2]?) fun y_3=>
 .ret (.inl ((bC.mk 0 0 o3 0),{s with aQ:=(s.aQ.set a_2 (bL.mk [] 0 []))}))) fun b_4=>
 .ret (.inr ())
def zF:=fun s o3=>(pV s o3).get
def rl (s:aI) (aU:Int) (seq:Int) (o0:Int):Tree (aI×bC):=
 .opt (zF s o0) fun r_1=>
 ba r_1 (fun a_2=>
 .opt (pD a_2.2.Marks aU {a_2.1 with Seq:=seq}) fun r_3=>
 .ret ({a_2.2 with Marks:=r_3},{a_2.1 with Seq:=seq})) fun b_4=>
 .opt (pD s.Marks aU (bC.mk seq 2 0 0)) fun r_5=>
 .ret ({s with Marks:=r_5},(bC.mk seq 2 0 0))
def BB:=fun s aU seq o0=>(rl s aU seq o0).get
def uY (s:aI) (aU:Int) (seq:Int) (n:Int):Tree (aI×bC):=
 .opt (BB s aU seq n) fun r_1=>
 .ret (r_1.1,r_1.2)
def Ag:=fun s aU seq n=>(uY s aU seq n).get
def mq (a:bf) (h:ax):Tree (ax ⊕ ((ax×List (List UInt8)×List bJ×List bL×List bC×List aS×List bA) ⊕ (ax×List (List UInt8)×List bJ×List bL×List bC))):=
 .opt (mn n_ a.bg a.aV {h with told:=[]}) fun r_1=>
 .ite r_1.1 (.opt (dv a (bQ.mk 0 0 0 0 4 0 0 0 []) {r_1.2 with told:=[]}) fun r_2=>
 .ret (.inl r_2))
 (.opt (Ag r_1.2.Server.aB.S a.bg a.Seq a.aV) fun r_3=>
 .opt (fw n_ r_3.1 {r_1.2 with told:=[]}) fun r_4=>
 ba r_4 (fun a_5=>
 .opt (o6 n_ a_5.1.Server.aY a.bg a.aV) fun r_6=>
 .opt (qV n_ r_6.cW a.bg) fun r_7=>
 .opt (fY a r_3.2 (ax.mk {a_5.1.Server with aY:={r_6 with cW:=r_7}} [])) fun r_8=>
 .ret (.inr (.inl (r_8,a_5.2.1,a_5.2.2,r_1.2.Server.aB.S.aQ,r_1.2.Server.aB.S.Marks,a_5.1.Server.aY.bD,a_5.1.Server.aY.cW)))) fun b_9=>
 .ret (.inr (.inr ({b_9.1 with told:=[]},b_9.2.1,b_9.2.2,r_1.2.Server.aB.S.aQ,r_1.2.Server.aB.S.Marks))))
def oD:=fun a h=>(mq n_ a h).get
def km (a:bf) (h:ax):Tree (ax ⊕ (ax ⊕ (ax ⊕ (ax ⊕ ((ax×List aS×List bA) ⊕ ((ax×List aS×List bA) ⊕ ((ax×List aS×List bA) ⊕ ((ax×List aS×List bA) ⊕ ((ax×List aS×List bA) ⊕ ((ax×List (List UInt8)×List bJ×List bL×List bC) ⊕ ((ax×List (List UInt8)×List bJ×List bL×List bC) ⊕ ((ax×List (List UInt8)×List bJ×List bL×List bC) ⊕ ((ax×List (List UInt8)×List bJ×List bL×List bC) ⊕ ((ax×List (List UInt8)×List bJ×List bL×List bC×List aS×List bA) ⊕ (ax×List (List UInt8)×List bJ×List bL×List bC×List aS×List bA))))))))))))))):=
 .ite (decide (h.Server.gD<h.Server.od)) (.opt (dv a (bQ.mk 0 0 0 0 7 0 0 0 []) {h with told:=[]}) fun r_1=>
 .ret (.inr (.inl r_1)))
 (.ite (a.Kind==1) (.opt (nr n_ a {h with told:=[]}) fun r_2=>
 ba r_2 (fun a_3=>
  .ret (.inr (.inr (.inr (.inr (.inr (.inr (.inr (.inr (.inr (.inr (.inr (.inr (.inl (a_3.1,a_3.2.1,a_3.2.2.1,a_3.2.2.2.1,a_3.2.2.2.2))))))))))))))) fun b_4=>
 .ret (.inr (.inr (.inr (.inr (.inr (.inr (.inr (.inr (.inr (.inr (.inl ((ax.mk {b_4.1.Server with Live:=false} []),b_4.2.1,b_4.2.2.1,b_4.2.2.2.1,b_4.2.2.2.2)))))))))))))
 (.ite (a.Kind==2) (.opt (ns n_ a {h with told:=[]}) fun r_5=>
 ba r_5 (fun a_6=>
  .ret (.inr (.inr (.inr (.inl a_6))))) fun b_7=>
 ba b_7 (fun a_8=>
  .ret (.inr (.inr (.inr (.inr (.inl (a_8.1,a_8.2.1,a_8.2.2))))))) fun b_9=>
 ba b_9 (fun a_10=>
  .ret (.inr (.inr (.inr (.inr (.inr (.inr (.inr (.inl (a_10.1,a_10.2.1,a_10.2.2)))))))))) fun b_11=>
 .ret (.inr (.inr (.inr (.inr (.inr (.inr (.inr (.inr (.inl (b_11.1,b_11.2.1,b_11.2.2)))))))))))
 (.ite (a.Kind==3) (.opt (iu n_ a {h with told:=[]}) fun r_12=>
 ba r_12 (fun a_13=>
  .ret (.inr (.inr (.inr (.inl a_13))))) fun b_14=>
 ba b_14 (fun a_15=>
  .ret (.inr (.inr (.inr (.inr (.inr (.inr (.inr (.inr (.inr (.inr (.inr (.inr (.inl (a_15.1,a_15.2.1,a_15.2.2.1,a_15.2.2.2.1,a_15.2.2.2.2))))))))))))))) fun b_16=>
 .ret (.inr (.inr (.inr (.inr (.inr (.inr (.inr (.inr (.inr (.inr (.inl ((ax.mk {b_16.1.Server with Live:=false} []),b_16.2.1,b_16.2.2.1,b_16.2.2.2.1,b_16.2.2.2.2)))))))))))))
 (.ite (a.Kind==4) (.opt (jA n_ a {h with told:=[]}) fun r_17=>
 ba r_17 (fun a_18=>
  .ret (.inr (.inr (.inr (.inr (.inr (.inl (a_18.1,a_18.2.1,a_18.2.2)))))))) fun b_19=>
 ba b_19 (fun a_20=>
  .ret (.inr (.inr (.inr (.inr (.inr (.inr (.inl (a_20.1,a_20.2.1,a_20.2.2))))))))) fun b_21=>
 ba b_21 (fun a_22=>
  .ret (.inr (.inr (.inr (.inr (.inr (.inr (.inr (.inr (.inr (.inr (.inr (.inr (.inr (.inr (a_22.1,a_22.2.1,a_22.2.2.1,a_22.2.2.2.1,a_22.2.2.2.2.1,a_22.2.2.2.2.2.1,a_22.2.2.2.2.2.2)))))))))))))))) fun b_23=>
 .ret (.inr (.inr (.inr (.inr (.inr (.inr (.inr (.inr (.inr (.inr (.inr (.inl ((ax.mk {b_23.1.Server with Live:=false} []),b_23.2.1,b_23.2.2.1,b_23.2.2.2.1,b_23.2.2.2.2))))))))))))))
 (.ite (a.Kind==5) (.opt (oD n_ a {h with told:=[]}) fun r_24=>
 ba r_24 (fun a_25=>
  .ret (.inr (.inr (.inl a_25)))) fun b_26=>
 ba b_26 (fun a_27=>
  .ret (.inr (.inr (.inr (.inr (.inr (.inr (.inr (.inr (.inr (.inr (.inr (.inr (.inr (.inl (a_27.1,a_27.2.1,a_27.2.2.1,a_27.2.2.2.1,a_27.2.2.2.2.1,a_27.2.2.2.2.2.1,a_27.2.2.2.2.2.2)))))))))))))))) fun b_28=>
 .ret (.inr (.inr (.inr (.inr (.inr (.inr (.inr (.inr (.inr (.inl ((ax.mk {b_28.1.Server with Live:=false} []),b_28.2.1,b_28.2.2.1,b_28.2.2.2.1,b_28.2.2.2.2))))))))))))
 (.ret (.inl ({h with told:=[]}))))))))
def jb:=fun a h=>(km n_ a h).get
def ry (s:aG) (b:List UInt8):Tree (aG×List bQ):=
 .ite (!s.Live) (.ret ((gA s).Server,[]))
 (.opt (xT n_ b) fun r_1=>
 .ite (!r_1.2) (.ret ({(gA s).Server with wM:=(jE (ay ((gA s).Server.wM+1)) 1073741824)},[]))
 (.opt (Al s.aB.S.aP s.Seen s.Told s.aB.S.Marks r_1.1) fun r_2=>
 .ite (r_2.1==1) (.ret ((gA s).Server,[(bQ.mk 3 r_1.1.bg s.aB.S.aP 0 0 0 0 0 [])]))
 (.ite (r_2.1==3) (.ret ((gA s).Server,[r_2.2]))
 (.ite (r_2.1==4) (.ite (cL (ay (r_1.1.bg-1)) (gA s).Server.Seen.length) (.opt ((gA s).Server.Seen[(ay (r_1.1.bg-1)).toNat]?) fun y_3=>
  .opt (jb n_ r_1.1 (ax.mk {(gA s).Server with Seen:=((gA s).Server.Seen.set (ay (r_1.1.bg-1)).toNat r_1.1.Seq)} [])) fun r_4=>
  ba r_4 (fun a_5=>
  .ret (a_5.Server,[])) fun b_6=>
  ba b_6 (fun a_7=>
  .ret (a_7.Server,a_7.told)) fun b_8=>
  ba b_8 (fun a_9=>
  .ret (a_9.Server,a_9.told)) fun b_10=>
  ba b_10 (fun a_11=>
  .ret (a_11.Server,a_11.told)) fun b_12=>
  ba b_12 (fun a_13=>
  .ret (a_13.1.Server,a_13.1.told)) fun b_14=>
  ba b_14 (fun a_15=>
  .ret (a_15.1.Server,a_15.1.told)) fun b_16=>
  ba b_16 (fun a_17=>
  .ret (a_17.1.Server,a_17.1.told)) fun b_18=>
  ba b_18 (fun a_19=>
  .ret (a_19.1.Server,a_19.1.told)) fun b_20=>
  ba b_20 (fun a_21=>
  .ret (a_21.1.Server,a_21.1.told)) fun b_22=>
  ba b_22 (fun a_23=>
  .ret (a_23.1.Server,[])) fun b_24=>
  ba b_24 (fun a_25=>
  .ret (a_25.1.Server,[])) fun b_26=>
  ba b_26 (fun a_27=>
  .ret (a_27.1.Server,[])) fun b_28=>
  ba b_28 (fun a_29=>
  .ret (a_29.1.Server,a_29.1.told)) fun b_30=>
  ba b_30 (fun a_31=>
  .ret (a_31.1.Server,a_31.1.told)) fun b_32=>
  .ret (b_32.1.Server,b_32.1.told)) .fail)
 (.ret ((gA s).Server,[]))))))
def gM:=fun s b=>(ry n_ s b).get
def rZ (i:Int) (w:bd):Tree ((List UInt8×bd×List (List UInt8)×List bJ) ⊕ (bd×List (List UInt8)×List bJ)):=
 .opt (fc w.d (gC w.d i).2 w) fun r_1=>
 ba r_1 (fun a_2=>
 .ret (.inl ((gC w.d i).1,a_2,w.d.bz,w.d.bM))) fun b_3=>
 .ret (.inr (b_3,w.d.bz,w.d.bM))
def Dc:=fun i w=>(rZ i w).get
def lh (c:UInt8) (v_:List UInt8):Tree ((List UInt8) ⊕ (List UInt8)):=
 .ite (decide ((v_.length:Int)>0)) (.ite (cL (ay ((v_.length:Int)-1)) v_.length) (.opt (v_[(ay ((v_.length:Int)-1)).toNat]?) fun y_1=>
  .ite ((i8 y_1)==(i8 c)) (.ite (j2 0 (ay ((v_.length:Int)-1)) v_.length) (.ret (.inl (eD v_ 0 (ay ((v_.length:Int)-1))))) .fail)
  (.ret (.inr v_))) .fail)
 (.ret (.inr v_))
def tg:=fun c v_=>(lh c v_).get
def th:=fun c s=>iter (tg c) n_ s
def mO (s:List UInt8) (c:UInt8):Tree (List UInt8):=
 .opt (th n_ c s) fun r_1=>
 .ret r_1
def wT:=fun s c=>(mO n_ s c).get
def lP (c:UInt8) (v_:List UInt8):Tree ((List UInt8) ⊕ (List UInt8)):=
 .ite (decide ((v_.length:Int)>0)) (.ite (cL 0 v_.length) (.opt (v_[0]?) fun y_1=>
  .ite ((i8 y_1)==(i8 c)) (.ite (j2 1 (v_.length:Int) v_.length) (.ret (.inl (eD v_ 1 (v_.length:Int)))) .fail)
  (.ret (.inr v_))) .fail)
 (.ret (.inr v_))
def uh:=fun c v_=>(lP c v_).get
def uj:=fun c s=>iter (uh c) n_ s
def ng (s:List UInt8) (c:UInt8):Tree (List UInt8):=
 .opt (uj n_ c s) fun r_1=>
 .ret r_1
def xf:=fun s c=>(ng n_ s c).get
def xg (s:List UInt8):Tree (List UInt8):=
 .ite (s==[]) (.ret s)
 (.opt (wT n_ s 0) fun r_1=>
 .opt (xf n_ r_1 0) fun r_2=>
 .ret r_2)
def IP:=fun s=>(xg n_ s).get
def yg (home:Int) (s:List UInt8) (n:Int) (t44:Int) (o0:aT) (r1:List UInt8) (v_:Int×Int×List Int):Tree ((Int×Int×List Int) ⊕ ((List Int) ⊕ (List Int))):=
 .ite (decide (v_.2.1<t44)) (.ite (cL v_.2.1 r1.length) (.opt (r1[v_.2.1.toNat]?) fun y_1=>
  .ite (decide ((ay (i8 y_1))≤v_.1)) (.ret (.inr (.inl v_.2.2)))
  (.ite (decide ((ay (i8 y_1))≥home)) (.ret (.inr (.inl v_.2.2)))
  (.ite (decide ((v_.2.2.length+1)≤dy)) (.ret (.inl ((ay (i8 y_1)),(ay (v_.2.1+1)),(v_.2.2++[(ay (i8 y_1))])))) .fail))) .fail)
 (.ret (.inr (.inr v_.2.2)))
def Hj:=fun home s n t44 o0 r1 v_=>(yg home s n t44 o0 r1 v_).get
def Hk:=fun home s n t44 o0 r1 last t45 l=>iter (Hj home s n t44 o0 r1) n_ (last,t45,l)
def B9 (d:aT) (home:Int) (s:List UInt8):Tree (List Int×Bool):=
 .ite (cL 0 s.length) (.opt (s[0]?) fun y_1=>
 .ite ((i8 y_1) != 1) (.ret ([],false))
 (.ite (cL 31 s.length) (.opt (s[31]?) fun y_2=>
  .ite ((i8 y_2) != 1) (.ret ([],false))
  (.ite (cL 1 s.length) (.opt (s[1]?) fun y_3=>
  .ite (decide ((ay (i8 y_3))<1)) (.ret ([],false))
  (.ite (decide ((ay (i8 y_3))>16)) (.ret ([],false))
  (.ite (decide ((ay (home+(ay (i8 y_3))))≥(d.bz.length:Int))) (.ret ([],false))
  (.ite (j2 2 (ay (2+(ay (i8 y_3)))) s.length) (.opt (Hk n_ home s (ay (i8 y_3)) ((eD s 2 (ay (2+(ay (i8 y_3))))).length:Int) d (eD s 2 (ay (2+(ay (i8 y_3))))) (-1) 0 []) fun r_4=>
   ba r_4 (fun a_5=>
   .ret ([],false)) fun b_6=>
   .ite (j2 (ay (2+(ay (i8 y_3)))) 31 s.length) (.opt (IP n_ (eD s (ay (2+(ay (i8 y_3)))) 31)) fun r_7=>
   .ret (b_6,(r_7==[]))) .fail) .fail)))) .fail)) .fail)) .fail
def M7:=fun d home s=>(B9 n_ d home s).get
def pJ (i:Int) (w:bd):Tree ((List UInt8×bd) ⊕ bd):=
 .opt (fc w.d (gC w.d i).2 w) fun r_1=>
 ba r_1 (fun a_2=>
 .ret (.inl ((gC w.d i).1,a_2))) fun b_3=>
 .ret (.inr b_3)
def AN:=fun i w=>(pJ i w).get
def zQ (home:Int) (t53:List Int) (t54:Int) (o0:aT) (ok:Bool) (r4:List (List UInt8)) (r5:List bJ) (v_:Int×aT×bd):Tree ((Int×aT×bd) ⊕ ((aT×bd) ⊕ (aT×bd))):=
 .ite (decide (v_.1<t54)) (.ite (cL v_.1 t53.length) (.opt (t53[v_.1.toNat]?) fun y_1=>
  .opt (AN (ay ((ay (home+1))+v_.1)) v_.2.2) fun r_2=>
  ba r_2 (fun a_3=>
  .opt (eW y_1 a_3.1 a_3.2) fun r_4=>
  ba r_4 (fun a_5=>
   .ret (.inl ((ay (v_.1+1)),{v_.2.1 with bz:=[],bM:=[]},a_5))) fun b_6=>
  .ret (.inr (.inl ({v_.2.1 with bz:=[],bM:=[]},b_6)))) fun b_7=>
  .ret (.inr (.inl ({v_.2.1 with bz:=[],bM:=[]},b_7)))) .fail)
 (.ret (.inr (.inr ({v_.2.1 with bz:=[],bM:=[]},v_.2.2))))
def Ju:=fun home t53 t54 o0 ok r4 r5 v_=>(zQ home t53 t54 o0 ok r4 r5 v_).get
def Jv:=fun home t53 t54 o0 ok r4 r5 t55 x w=>iter (Ju home t53 t54 o0 ok r4 r5) n_ (t55,x,w)
def D6 (d:aT) (home:Int):Tree (aT×Bool):=
 .opt (Dc home (bd.mk d)) fun r_1=>
 ba r_1 (fun a_2=>
 .ite ((a_2.1.length:Int) != 32) (.ret (a_2.2.1.d,false))
 (.opt (M7 n_ d home a_2.1) fun r_3=>
 .ite (!r_3.2) (.ret (a_2.2.1.d,false))
 (.opt (Jv n_ home r_3.1 (r_3.1.length:Int) d false a_2.2.2.1 a_2.2.2.2 0 (aT.mk [] [] 0 false) a_2.2.1) fun r_4=>
 ba r_4 (fun a_5=>
  .ret (a_5.2.d,false)) fun b_6=>
 .opt (eT n_ b_6.2) fun r_7=>
 ba r_7 (fun a_8=>
  .ret (a_8.d,true)) fun b_9=>
 .ret (b_9.d,false)))) fun b_10=>
 .ret (b_10.1.d,false)
def PE:=fun d home=>(D6 n_ d home).get
def sH (t6:Int) (d:aT) (v_:Int×List (List UInt8)):Tree ((Int×List (List UInt8)) ⊕ ((List (List UInt8)) ⊕ (List (List UInt8)))):=
 .ite (decide (v_.1<t6)) (.ite (!(gC d v_.1).2) (.ret (.inr (.inl v_.2)))
 (.ite (decide ((v_.2.length+1)≤dy)) (.ret (.inl ((ay (v_.1+1)),(v_.2++[(gC d v_.1).1])))) .fail))
 (.ret (.inr (.inr v_.2)))
def CM:=fun t6 d v_=>(sH t6 d v_).get
def CN:=fun t6 d t7 l=>iter (CM t6 d) n_ (t7,l)
def wN (d:aT):Tree ((List (List UInt8)) ⊕ Unit):=
 .opt (rj n_) fun r_1=>
 .opt (CN n_ r_1 d 0 []) fun r_2=>
 ba r_2 (fun a_3=>
 .ret (.inr ())) fun b_4=>
 .ret (.inl b_4)
def G4:=fun d=>(wN n_ d).get
def mG (n:Int) (r:bH):Tree ((Int×bH×List UInt8) ⊕ Unit):=
 .opt (uN n_ r.b n) fun r_1=>
 .ite (!r_1.2) (.ret (.inr ()))
 (.ite (j2 n (r.b.length:Int) r.b.length) (.ret (.inl (r_1.1,(bH.mk (eD r.b n (r.b.length:Int))),r.b))) .fail)
def oX:=fun n r=>(mG n_ n r).get
def kF (n:Int) (r:bH):Tree ((Int×bH) ⊕ Unit):=
 .opt (uN n_ r.b n) fun r_1=>
 .ite (!r_1.2) (.ret (.inr ()))
 (.ite (j2 n (r.b.length:Int) r.b.length) (.ret (.inl (r_1.1,(bH.mk (eD r.b n (r.b.length:Int)))))) .fail)
def dh:=fun n r=>(kF n_ n r).get
def lK (n:Int) (r:bH):Tree ((List UInt8×bH) ⊕ Unit):=
 .opt (pt r.b) fun r_1=>
 .ite (!r_1.2.2) (.ret (.inr ()))
 (.ite (decide (r_1.2.1>n)) (.ret (.inr ()))
 (.ite (decide ((r.b.length:Int)<n)) (.ret (.inr ()))
 (.ite (j2 n (r.b.length:Int) r.b.length) (.ret (.inl (r_1.1,(bH.mk (eD r.b n (r.b.length:Int)))))) .fail)))
def fq:=fun n r=>(lK n r).get
def jG (r1:List UInt8) (v_:Int×bH×aI):Tree ((Int×bH×aI) ⊕ ((bH×aI) ⊕ (bH×aI))):=
 .ite (decide (v_.1<3)) (.opt (dh n_ 4 v_.2.1) fun r_1=>
 ba r_1 (fun a_2=>
  .opt (dh n_ 1 a_2.2) fun r_3=>
  ba r_3 (fun a_4=>
  .opt (dh n_ 1 a_4.2) fun r_5=>
  ba r_5 (fun a_6=>
   .opt (dh n_ 4 a_6.2) fun r_7=>
   ba r_7 (fun a_8=>
   .ite (decide ((v_.2.2.Marks.length+1)≤dy)) (.ret (.inl ((ay (v_.1+1)),a_8.2,(aI.mk [] (v_.2.2.Marks++[(bC.mk a_2.1 a_4.1 a_6.1 a_8.1)]) v_.2.2.aP)))) .fail) fun b_9=>
   .ret (.inr (.inl (a_6.2,{v_.2.2 with aQ:=[]})))) fun b_10=>
  .ret (.inr (.inl (a_4.2,{v_.2.2 with aQ:=[]})))) fun b_11=>
  .ret (.inr (.inl (a_2.2,{v_.2.2 with aQ:=[]})))) fun b_12=>
 .ret (.inr (.inl (v_.2.1,{v_.2.2 with aQ:=[]}))))
 (.ret (.inr (.inr (v_.2.1,{v_.2.2 with aQ:=[]}))))
def kE:=fun r1 v_=>(jG n_ r1 v_).get
def pL:=fun r1 t7 r s=>iter (kE n_ r1) n_ (t7,r,s)
def jF (r1:List UInt8) (v_:Int×bH×aI):Tree ((Int×bH×aI) ⊕ ((bH×aI) ⊕ ((bH×aI×bL) ⊕ (bH×aI)))):=
 .ite (decide (v_.1<6)) (.opt (fq 9 v_.2.1) fun r_1=>
 ba r_1 (fun a_2=>
  .opt (dh n_ 4 a_2.2) fun r_3=>
  ba r_3 (fun a_4=>
  .opt (fq 25 a_4.2) fun r_5=>
  ba r_5 (fun a_6=>
   .ite (decide ((v_.2.2.aQ.length+1)≤dy)) (.ret (.inl ((ay (v_.1+1)),a_6.2,{v_.2.2 with aQ:=(v_.2.2.aQ++[(bL.mk a_2.1 a_4.1 a_6.1)])}))) .fail) fun b_7=>
  .ret (.inr (.inr (.inl (a_4.2,v_.2.2,(bL.mk a_2.1 a_4.1 [])))))) fun b_8=>
  .ret (.inr (.inl (a_2.2,v_.2.2)))) fun b_9=>
 .ret (.inr (.inl (v_.2.1,v_.2.2))))
 (.ret (.inr (.inr (.inr (v_.2.1,v_.2.2)))))
def kD:=fun r1 v_=>(jF n_ r1 v_).get
def pK:=fun r1 t24 r s=>iter (kD n_ r1) n_ (t24,r,s)
def lL (r:bH):Tree ((aI×bH×List UInt8) ⊕ (Unit ⊕ (bH×List UInt8))):=
 .opt (oX n_ 4 r) fun r_1=>
 ba r_1 (fun a_2=>
 .opt (pL n_ a_2.2.2 0 a_2.2.1 (aI.mk [] [] a_2.1)) fun r_3=>
 ba r_3 (fun a_4=>
  .ret (.inr (.inr (a_4.1,a_2.2.2)))) fun b_5=>
 .opt (pK n_ a_2.2.2 0 b_5.1 {b_5.2 with aQ:=[]}) fun r_6=>
 ba r_6 (fun a_7=>
  .ret (.inr (.inr (a_7.1,a_2.2.2)))) fun b_8=>
 ba b_8 (fun a_9=>
  .ret (.inr (.inr (a_9.1,a_2.2.2)))) fun b_10=>
 .ret (.inl (b_10.2,b_10.1,a_2.2.2))) fun b_11=>
 .ret (.inr (.inl ()))
def nP:=fun r=>(lL n_ r).get
def mS (s1:List (List UInt8)) (s2:List (List UInt8)) (t12:Int) (v_:Int):Tree (Int ⊕ (Unit ⊕ Unit)):=
 .ite (decide (v_<t12)) (.ite (cL v_ s1.length) (.opt (s1[v_.toNat]?) fun y_1=>
  .ite (cL v_ s2.length) (.opt (s2[v_.toNat]?) fun y_2=>
  .ite (!(y_1==y_2)) (.ret (.inr (.inl ())))
  (.ret (.inl (ay (v_+1))))) .fail) .fail)
 (.ret (.inr (.inr ())))
def uZ:=fun s1 s2 t12 v_=>(mS s1 s2 t12 v_).get
def vd:=fun s1 s2 t12 t13=>iter (uZ s1 s2 t12) n_ t13
def om (s1:List (List UInt8)) (s2:List (List UInt8)):Tree Bool:=
 .ite ((s1.length:Int) != (s2.length:Int)) (.ret false)
 (.opt (vd n_ s1 s2 (s1.length:Int) 0) fun r_1=>
 ba r_1 (fun a_2=>
 .ret false) fun b_3=>
 .ret true)
def qs:=fun s1 s2=>(om n_ s1 s2).get
def Cd (l:List (List UInt8)):Tree (aI×Bool):=
 .ite (Jw l []) (.opt (nP n_ (bH.mk (F5 l []))) fun r_1=>
 ba r_1 (fun a_2=>
  .opt (y4 n_ a_2.1) fun r_3=>
  .ite (!r_3) (.ret ((aI.mk [] [] 0),false))
  (.opt (oY n_ a_2.1) fun r_4=>
  .opt (qs n_ r_4 l) fun r_5=>
  .ite (!r_5) (.ret ((aI.mk [] [] 0),false))
  (.ret (a_2.1,true)))) fun b_6=>
 ba b_6 (fun a_7=>
  .ret ((aI.mk [] [] 0),false)) fun b_8=>
 .ret ((aI.mk [] [] 0),false)) .fail
def Nc:=fun l=>(Cd n_ l).get
def Bz (d:aT):Tree (bZ×Bool):=
 .opt (Fk n_) fun r_1=>
 .ite ((d.bz.length:Int) != r_1) (.ret ((bZ.mk (aT.mk [] [] 0 false) (aI.mk [] [] 0)),false))
 (.ite d.Down (.ret ((bZ.mk (aT.mk [] [] 0 false) (aI.mk [] [] 0)),false))
 (.opt (rj n_) fun r_2=>
 .opt (PE n_ d r_2) fun r_3=>
 .opt (G4 n_ r_3.1) fun r_4=>
 ba r_4 (fun a_5=>
 .opt (Nc n_ a_5) fun r_6=>
 .ite (!r_6.2) (.ret ((bZ.mk (aT.mk [] [] 0 false) (aI.mk [] [] 0)),false))
 (.ret ((bZ.mk r_3.1 r_6.1),true))) fun b_7=>
 .ret ((bZ.mk (aT.mk [] [] 0 false) (aI.mk [] [] 0)),false)))
def MD:=fun d=>(Bz n_ d).get
def Fo (s:aI):aI:=({s with aP:=(jE (ay (s.aP+1)) 1073741824)})
def yI (v:Int) (most:Int):Tree (Unit ⊕ Unit):=
 .ite (decide (v<0)) (.ret (.inr ()))
 (.ite (decide (v>most)) (.ret (.inr ()))
 (.ret (.inl ())))
def Cv:=fun v most=>(yI v most).get
def Cw (term:Int) (eps:Int):Tree Int:=
 .opt (Cv term 1099511627776) fun r_1=>
 ba r_1 (fun a_2=>
 .opt (Cv eps 500) fun r_3=>
 ba r_3 (fun a_4=>
  .ite ((ay (1000-eps))==0) .fail
  (.ret (ay ((ay ((ay ((ay ((ay (term*(ay (1000+eps))))+1000))-eps))-1)).tdiv (ay (1000-eps)))))) fun b_5=>
 .ret 0) fun b_6=>
 .ret 0
def NK:=fun term eps=>(Cw term eps).get
def zI (d:aT) (now:Int):Tree (aG×Bool):=
 .opt (MD n_ d) fun r_1=>
 .ite (!r_1.2) (.ret ((aG.mk (bZ.mk (aT.mk [] [] 0 false) (aI.mk [] [] 0)) (bR.mk [] []) [] [] 0 0 0 false 0),false))
 (.opt (iX n_ r_1.1 (Fo r_1.1.S)) fun r_2=>
 .ite (!r_2.2) (.ret ((aG.mk (bZ.mk (aT.mk [] [] 0 false) (aI.mk [] [] 0)) (bR.mk [] []) [] [] 0 0 0 false 0),false))
 (.opt (BM n_ r_2.1 now) fun r_3=>
 .opt (NK 60 100) fun r_4=>
 .ret ({r_3 with od:=(m9 now r_4)},true)))
def Ko:=fun d now=>(zI n_ d now).get
def px (s1:List bJ) (s2:List bJ) (t12:Int) (v_:Int):Tree (Int ⊕ (Unit ⊕ Unit)):=
 .ite (decide (v_<t12)) (.ite (cL v_ s1.length) (.opt (s1[v_.toNat]?) fun y_1=>
  .ite (cL v_ s2.length) (.opt (s2[v_.toNat]?) fun y_2=>
  .ite (!(bJ.ee y_1 y_2)) (.ret (.inr (.inl ())))
  (.ret (.inl (ay (v_+1))))) .fail) .fail)
 (.ret (.inr (.inr ())))
def zr:=fun s1 s2 t12 v_=>(px s1 s2 t12 v_).get
def zt:=fun s1 s2 t12 t13=>iter (zr s1 s2 t12) n_ t13
def ru (s1:List bJ) (s2:List bJ):Tree Bool:=
 .ite ((s1.length:Int) != (s2.length:Int)) (.ret false)
 (.opt (zt n_ s1 s2 (s1.length:Int) 0) fun r_1=>
 ba r_1 (fun a_2=>
 .ret false) fun b_3=>
 .ret true)
def CQ:=fun s1 s2=>(ru n_ s1 s2).get
def xA (a:aT) (b:aT):Tree Bool:=
 .opt (qs n_ a.bz b.bz) fun r_1=>
 .ite r_1 (.opt (CQ n_ a.bM b.bM) fun r_2=>
 .ite r_2 (.ite (a.im==b.im) (.ret (a.Down==b.Down))
  (.ret false))
 (.ret false))
 (.ret false)
def IV:=fun a b=>(xA n_ a b).get
def ow (s1:List bL) (s2:List bL) (t12:Int) (v_:Int):Tree (Int ⊕ (Unit ⊕ Unit)):=
 .ite (decide (v_<t12)) (.ite (cL v_ s1.length) (.opt (s1[v_.toNat]?) fun y_1=>
  .ite (cL v_ s2.length) (.opt (s2[v_.toNat]?) fun y_2=>
  .ite (!(bL.ee y_1 y_2)) (.ret (.inr (.inl ())))
  (.ret (.inl (ay (v_+1))))) .fail) .fail)
 (.ret (.inr (.inr ())))
def xv:=fun s1 s2 t12 v_=>(ow s1 s2 t12 v_).get
def xw:=fun s1 s2 t12 t13=>iter (xv s1 s2 t12) n_ t13
def qw (s1:List bL) (s2:List bL):Tree Bool:=
 .ite ((s1.length:Int) != (s2.length:Int)) (.ret false)
 (.opt (xw n_ s1 s2 (s1.length:Int) 0) fun r_1=>
 ba r_1 (fun a_2=>
 .ret false) fun b_3=>
 .ret true)
def BJ:=fun s1 s2=>(qw n_ s1 s2).get
def ov (s1:List bC) (s2:List bC) (t12:Int) (v_:Int):Tree (Int ⊕ (Unit ⊕ Unit)):=
 .ite (decide (v_<t12)) (.ite (cL v_ s1.length) (.opt (s1[v_.toNat]?) fun y_1=>
  .ite (cL v_ s2.length) (.opt (s2[v_.toNat]?) fun y_2=>
  .ite (!(bC.ee y_1 y_2)) (.ret (.inr (.inl ())))
  (.ret (.inl (ay (v_+1))))) .fail) .fail)
 (.ret (.inr (.inr ())))
def xr:=fun s1 s2 t12 v_=>(ov s1 s2 t12 v_).get
def xu:=fun s1 s2 t12 t13=>iter (xr s1 s2 t12) n_ t13
def qv (s1:List bC) (s2:List bC):Tree Bool:=
 .ite ((s1.length:Int) != (s2.length:Int)) (.ret false)
 (.opt (xu n_ s1 s2 (s1.length:Int) 0) fun r_1=>
 ba r_1 (fun a_2=>
 .ret false) fun b_3=>
 .ret true)
def BI:=fun s1 s2=>(qv n_ s1 s2).get
def BD (a:aI) (b:aI):Tree Bool:=
 .opt (BJ n_ a.aQ b.aQ) fun r_1=>
 .ite r_1 (.opt (BI n_ a.Marks b.Marks) fun r_2=>
 .ite r_2 (.ret (a.aP==b.aP))
 (.ret false))
 (.ret false)
def MF:=fun a b=>(BD n_ a b).get
def nk (s1:List aS) (s2:List aS) (t12:Int) (v_:Int):Tree (Int ⊕ (Unit ⊕ Unit)):=
 .ite (decide (v_<t12)) (.ite (cL v_ s1.length) (.opt (s1[v_.toNat]?) fun y_1=>
  .ite (cL v_ s2.length) (.opt (s2[v_.toNat]?) fun y_2=>
  .ite (!(aS.ee y_1 y_2)) (.ret (.inr (.inl ())))
  (.ret (.inl (ay (v_+1))))) .fail) .fail)
 (.ret (.inr (.inr ())))
def wU:=fun s1 s2 t12 v_=>(nk s1 s2 t12 v_).get
def wV:=fun s1 s2 t12 t13=>iter (wU s1 s2 t12) n_ t13
def py (s1:List aS) (s2:List aS):Tree Bool:=
 .ite ((s1.length:Int) != (s2.length:Int)) (.ret false)
 (.opt (wV n_ s1 s2 (s1.length:Int) 0) fun r_1=>
 ba r_1 (fun a_2=>
 .ret false) fun b_3=>
 .ret true)
def Ah:=fun s1 s2=>(py n_ s1 s2).get
def oq (s1:List bA) (s2:List bA) (t12:Int) (v_:Int):Tree (Int ⊕ (Unit ⊕ Unit)):=
 .ite (decide (v_<t12)) (.ite (cL v_ s1.length) (.opt (s1[v_.toNat]?) fun y_1=>
  .ite (cL v_ s2.length) (.opt (s2[v_.toNat]?) fun y_2=>
  .ite (!(bA.ee y_1 y_2)) (.ret (.inr (.inl ())))
  (.ret (.inl (ay (v_+1))))) .fail) .fail)
 (.ret (.inr (.inr ())))
def xm:=fun s1 s2 t12 v_=>(oq s1 s2 t12 v_).get
def xn:=fun s1 s2 t12 t13=>iter (xm s1 s2 t12) n_ t13
def qt (s1:List bA) (s2:List bA):Tree Bool:=
 .ite ((s1.length:Int) != (s2.length:Int)) (.ret false)
 (.opt (xn n_ s1 s2 (s1.length:Int) 0) fun r_1=>
 ba r_1 (fun a_2=>
 .ret false) fun b_3=>
 .ret true)
def BG:=fun s1 s2=>(qt n_ s1 s2).get
def pw (s1:List Int) (s2:List Int) (t12:Int) (v_:Int):Tree (Int ⊕ (Unit ⊕ Unit)):=
 .ite (decide (v_<t12)) (.ite (cL v_ s1.length) (.opt (s1[v_.toNat]?) fun y_1=>
  .ite (cL v_ s2.length) (.opt (s2[v_.toNat]?) fun y_2=>
  .ite (y_1 != y_2) (.ret (.inr (.inl ())))
  (.ret (.inl (ay (v_+1))))) .fail) .fail)
 (.ret (.inr (.inr ())))
def zp:=fun s1 s2 t12 v_=>(pw s1 s2 t12 v_).get
def zq:=fun s1 s2 t12 t13=>iter (zp s1 s2 t12) n_ t13
def rr (s1:List Int) (s2:List Int):Tree Bool:=
 .ite ((s1.length:Int) != (s2.length:Int)) (.ret false)
 (.opt (zq n_ s1 s2 (s1.length:Int) 0) fun r_1=>
 ba r_1 (fun a_2=>
 .ret false) fun b_3=>
 .ret true)
def CP:=fun s1 s2=>(rr n_ s1 s2).get
def ou (s1:List bQ) (s2:List bQ) (t12:Int) (v_:Int):Tree (Int ⊕ (Unit ⊕ Unit)):=
 .ite (decide (v_<t12)) (.ite (cL v_ s1.length) (.opt (s1[v_.toNat]?) fun y_1=>
  .ite (cL v_ s2.length) (.opt (s2[v_.toNat]?) fun y_2=>
  .ite (!(bQ.ee y_1 y_2)) (.ret (.inr (.inl ())))
  (.ret (.inl (ay (v_+1))))) .fail) .fail)
 (.ret (.inr (.inr ())))
def xp:=fun s1 s2 t12 v_=>(ou s1 s2 t12 v_).get
def xq:=fun s1 s2 t12 t13=>iter (xp s1 s2 t12) n_ t13
def qu (s1:List bQ) (s2:List bQ):Tree Bool:=
 .ite ((s1.length:Int) != (s2.length:Int)) (.ret false)
 (.opt (xq n_ s1 s2 (s1.length:Int) 0) fun r_1=>
 ba r_1 (fun a_2=>
 .ret false) fun b_3=>
 .ret true)
def BH:=fun s1 s2=>(qu n_ s1 s2).get
def zH (a:aG) (b:aG):Tree Bool:=
 .opt (IV n_ a.aB.D b.aB.D) fun r_1=>
 .ite (!r_1) (.ret false)
 (.opt (MF n_ a.aB.S b.aB.S) fun r_2=>
 .ite (!r_2) (.ret false)
 (.opt (Ah n_ a.aY.bD b.aY.bD) fun r_3=>
 .ite (!r_3) (.ret false)
 (.opt (BG n_ a.aY.cW b.aY.cW) fun r_4=>
 .ite (!r_4) (.ret false)
 (.opt (CP n_ a.Seen b.Seen) fun r_5=>
 .ite (!r_5) (.ret false)
 (.opt (BH n_ a.Told b.Told) fun r_6=>
 .ite (!r_6) (.ret false)
 (.ite (a.gD==b.gD) (.ite (a.od==b.od) (.ite (a.wM==b.wM) (.ite (a.Live==b.Live) (.ret (a.fG==b.fG))
  (.ret false))
  (.ret false))
 (.ret false))
 (.ret false)))))))
def Kn:=fun a b=>(zH n_ a b).get
def zP:Tree Bool:=
 .opt (vh n_ 0) fun r_1=>
 .opt (aZ n_ (bf.mk 1 1 0 1 [97] 0 0 [])) fun r_2=>
 .opt (gM n_ r_1 r_2) fun r_3=>
 .opt (aZ n_ (bf.mk 2 2 0 1 [] 1 1 [])) fun r_4=>
 .opt (gM n_ r_3.1 r_4) fun r_5=>
 .opt (gM n_ r_5.1 []) fun r_6=>
 .opt (Ko n_ r_3.1.aB.D 9) fun r_7=>
 .ite ((r_3.2.length:Int)==1) (.ite (cL 0 r_3.2.length) (.opt (r_3.2[0]?) fun y_8=>
  .ite (y_8.aV==1) (.ite (cL 0 r_3.2.length) (.opt (r_3.2[0]?) fun y_9=>
   .ite (y_9.Seq==1) (.ite ((r_5.2.length:Int)==1) (.ite (cL 0 r_5.2.length) (.opt (r_5.2[0]?) fun y_10=>
    .ite (y_10.Mode==1) (.ite (r_6.1.wM==1) (.ite ((r_6.2.length:Int)==0) (.ite r_7.2 (.ite (r_7.1.aB.S.aP==1) (.ite (r_7.1.od==83) (.ite r_7.1.Live (.opt (Kn n_ r_5.1 r_5.1) fun r_11=>
        .ret r_11)
       (.ret false))
       (.ret false))
      (.ret false))
      (.ret false))
     (.ret false))
     (.ret false))
    (.ret false)) .fail)
   (.ret false))
   (.ret false)) .fail)
  (.ret false)) .fail)
 (.ret false)
def D3:=(zP n_).get
def C7 (l:List UInt8):bu:=(bu.mk l 0)
def oQ (m:Int) (p:bu):Tree (Int×bu):=
 .ite (decide (p.n≥(p.l.length:Int))) (.ret (0,p))
 (.ite (decide (m<1)) (.ret (0,p))
 (.ite (cL (ay ((ay (p.n+1))-1)) p.l.length) (.opt (p.l[(ay ((ay (p.n+1))-1)).toNat]?) fun y_1=>
 .ite (m==0) .fail
 (.ret (((ay (i8 y_1)).tmod m),{p with n:=(ay (p.n+1))}))) .fail))
def cn:=fun m p=>(oQ m p).get
def mE (p:bu):Tree (aX×bu):=
 .opt (cn 10 p) fun r_1=>
 .opt (cn 6 r_1.2) fun r_2=>
 .ite (cL r_2.1 6) (.opt ([[120],[121,122],[104,101,108,108,111],[48],[97,98,0,99,100],[102,111,117,114,116,101,101,110,32,98,121,116,101,115]][r_2.1.toNat]?) fun y_3=>
 .ret ((aX.mk r_1.1 y_3),r_2.2)) .fail
def kX:=fun p=>(mE p).get
def jC (v_:Int×bu×List aX):Tree ((Int×bu×List aX) ⊕ (bu×List aX)):=
 .ite (decide (v_.1>0)) (.opt (kX v_.2.1) fun r_1=>
 .ite (decide ((v_.2.2.length+1)≤dy)) (.ret (.inl ((ay (v_.1-1)),r_1.2,(v_.2.2++[r_1.1])))) .fail)
 (.ret (.inr (v_.2.1,v_.2.2)))
def ky:=fun v_=>(jC v_).get
def pE:=fun i p l=>iter (ky) n_ (i,p,l)
def lG (most:Int) (p:bu):Tree (bu×List aX):=
 .opt (cn (ay (most+1)) p) fun r_1=>
 .opt (pE n_ r_1.1 r_1.2 []) fun r_2=>
 .ret (r_2.1,r_2.2)
def dW:=fun most p=>(lG n_ most p).get
def oR (p:bu):Tree (bf×bu):=
 .opt (cn 5 p) fun r_1=>
 .opt (cn 3 r_1.2) fun r_2=>
 .opt (cn 3 r_2.2) fun r_3=>
 .opt (cn 20 r_3.2) fun r_4=>
 .ite ((ay (1+r_1.1))==1) (.opt (cn 4 r_4.2) fun r_5=>
 .ite (cL r_5.1 4) (.opt ([[97],[98],[110,111,116,101,115],[99]][r_5.1.toNat]?) fun y_6=>
  .ret ((bf.mk (ay (1+r_1.1)) (ay (1+r_2.1)) r_3.1 (ay (1+r_4.1)) y_6 0 0 []),r_5.2)) .fail)
 (.ite ((ay (1+r_1.1))==2) (.opt (cn 2 r_4.2) fun r_7=>
 .opt (cn 6 r_7.2) fun r_8=>
 .ret ((bf.mk (ay (1+r_1.1)) (ay (1+r_2.1)) r_3.1 (ay (1+r_4.1)) [] (ay (1+r_8.1)) (ay (1+r_7.1)) []),r_8.2))
 (.ite ((ay (1+r_1.1))==3) (.opt (dW n_ 4 r_4.2) fun r_9=>
 .opt (kX r_9.1) fun r_10=>
 .ite (decide ((r_9.2.length+1)≤dy)) (.opt (cn 6 r_10.2) fun r_11=>
  .ret ((bf.mk (ay (1+r_1.1)) (ay (1+r_2.1)) r_3.1 (ay (1+r_4.1)) [] (ay (1+r_11.1)) 0 (r_9.2++[r_10.1])),r_11.2)) .fail)
 (.ite ((ay (1+r_1.1))==4) (.opt (dW n_ 5 r_4.2) fun r_12=>
 .opt (cn 6 r_12.1) fun r_13=>
 .ret ((bf.mk (ay (1+r_1.1)) (ay (1+r_2.1)) r_3.1 (ay (1+r_4.1)) [] (ay (1+r_13.1)) 0 r_12.2),r_13.2))
 (.opt (cn 6 r_4.2) fun r_14=>
 .ret ((bf.mk (ay (1+r_1.1)) (ay (1+r_2.1)) r_3.1 (ay (1+r_4.1)) [] (ay (1+r_14.1)) 0 []),r_14.2)))))
def rT:=fun p=>(oR n_ p).get
def vH (s:aG) (d:List UInt8):Tree (List UInt8):=
 .ite (j2 1 4 d.length) (.opt (rT n_ (C7 (eD d 1 4))) fun r_1=>
 .opt (d[1]?) fun y_2=>
 .opt (d[2]?) fun y_3=>
 .opt (d[3]?) fun y_4=>
 .ite ((ay (1+(ay (i8 (b8 ((i8 y_3).tmod 5))))))==1) (.opt (d[3]?) fun y_5=>
  .ite (cL (i8 (b8 ((i8 y_5).tmod 3))) 3) (.opt ([[97],[98],[99]][(i8 (b8 ((i8 y_5).tmod 3))).toNat]?) fun y_6=>
  .ite ((s.Seen.length:Int)==3) (.ite (cL (ay ((ay (1+(ay (i8 (b8 ((i8 y_2).tmod 3))))))-1)) s.Seen.length) (.opt (s.Seen[(ay ((ay (1+(ay (i8 (b8 ((i8 y_2).tmod 3))))))-1)).toNat]?) fun y_7=>
   .opt (d[0]?) fun y_8=>
   .ite (cL (i8 (b8 ((i8 (b8 (qE ((i8 y_8).tdiv 8)))).tmod 7))) 7) (.opt ([1,1,1,1,0,(-1),2][(i8 (b8 ((i8 (b8 (qE ((i8 y_8).tdiv 8)))).tmod 7))).toNat]?) fun y_9=>
    .opt (d[0]?) fun y_10=>
    .ite ((i8 (b8 ((i8 y_10).tmod 32)))==31) (.opt (aZ n_ (bf.mk (ay (1+(ay (i8 (b8 ((i8 y_3).tmod 5)))))) (ay (1+(ay (i8 (b8 ((i8 y_2).tmod 3)))))) (ay (s.aB.S.aP+1)) (imax 1 (ay (y_7+y_9))) y_6 0 0 [])) fun r_11=>
    .ret r_11)
    (.opt (aZ n_ (bf.mk (ay (1+(ay (i8 (b8 ((i8 y_3).tmod 5)))))) (ay (1+(ay (i8 (b8 ((i8 y_2).tmod 3)))))) s.aB.S.aP (imax 1 (ay (y_7+y_9))) y_6 0 0 [])) fun r_12=>
    .ret r_12)) .fail) .fail)
  (.opt (d[0]?) fun y_13=>
  .ite ((i8 (b8 ((i8 y_13).tmod 32)))==31) (.opt (aZ n_ (bf.mk (ay (1+(ay (i8 (b8 ((i8 y_3).tmod 5)))))) (ay (1+(ay (i8 (b8 ((i8 y_2).tmod 3)))))) (ay (s.aB.S.aP+1)) 1 y_6 0 0 [])) fun r_14=>
   .ret r_14)
  (.opt (aZ n_ (bf.mk (ay (1+(ay (i8 (b8 ((i8 y_3).tmod 5)))))) (ay (1+(ay (i8 (b8 ((i8 y_2).tmod 3)))))) s.aB.S.aP 1 y_6 0 0 [])) fun r_15=>
  .ret r_15))) .fail)
 (.ite ((ay (1+(ay (i8 (b8 ((i8 y_3).tmod 5))))))==2) (.opt (d[3]?) fun y_16=>
  .ite ((s.Seen.length:Int)==3) (.ite (cL (ay ((ay (1+(ay (i8 (b8 ((i8 y_2).tmod 3))))))-1)) s.Seen.length) (.opt (s.Seen[(ay ((ay (1+(ay (i8 (b8 ((i8 y_2).tmod 3))))))-1)).toNat]?) fun y_17=>
   .opt (d[0]?) fun y_18=>
   .ite (cL (i8 (b8 ((i8 (b8 (qE ((i8 y_18).tdiv 8)))).tmod 7))) 7) (.opt ([1,1,1,1,0,(-1),2][(i8 (b8 ((i8 (b8 (qE ((i8 y_18).tdiv 8)))).tmod 7))).toNat]?) fun y_19=>
   .opt (d[0]?) fun y_20=>
   .ite ((i8 (b8 ((i8 y_20).tmod 32)))==31) (.opt (aZ n_ (bf.mk (ay (1+(ay (i8 (b8 ((i8 y_3).tmod 5)))))) (ay (1+(ay (i8 (b8 ((i8 y_2).tmod 3)))))) (ay (s.aB.S.aP+1)) (imax 1 (ay (y_17+y_19))) [] (ay (1+(ay (i8 (b8 ((i8 y_4).tmod 2)))))) (ay (1+(ay (i8 (b8 ((i8 (b8 (qE ((i8 y_16).tdiv 2)))).tmod 2)))))) [])) fun r_21=>
    .ret r_21)
   (.opt (aZ n_ (bf.mk (ay (1+(ay (i8 (b8 ((i8 y_3).tmod 5)))))) (ay (1+(ay (i8 (b8 ((i8 y_2).tmod 3)))))) s.aB.S.aP (imax 1 (ay (y_17+y_19))) [] (ay (1+(ay (i8 (b8 ((i8 y_4).tmod 2)))))) (ay (1+(ay (i8 (b8 ((i8 (b8 (qE ((i8 y_16).tdiv 2)))).tmod 2)))))) [])) fun r_22=>
   .ret r_22)) .fail) .fail)
  (.opt (d[0]?) fun y_23=>
  .ite ((i8 (b8 ((i8 y_23).tmod 32)))==31) (.opt (aZ n_ (bf.mk (ay (1+(ay (i8 (b8 ((i8 y_3).tmod 5)))))) (ay (1+(ay (i8 (b8 ((i8 y_2).tmod 3)))))) (ay (s.aB.S.aP+1)) 1 [] (ay (1+(ay (i8 (b8 ((i8 y_4).tmod 2)))))) (ay (1+(ay (i8 (b8 ((i8 (b8 (qE ((i8 y_16).tdiv 2)))).tmod 2)))))) [])) fun r_24=>
  .ret r_24)
  (.opt (aZ n_ (bf.mk (ay (1+(ay (i8 (b8 ((i8 y_3).tmod 5)))))) (ay (1+(ay (i8 (b8 ((i8 y_2).tmod 3)))))) s.aB.S.aP 1 [] (ay (1+(ay (i8 (b8 ((i8 y_4).tmod 2)))))) (ay (1+(ay (i8 (b8 ((i8 (b8 (qE ((i8 y_16).tdiv 2)))).tmod 2)))))) [])) fun r_25=>
  .ret r_25)))
 (.ite ((ay (1+(ay (i8 (b8 ((i8 y_3).tmod 5))))))==3) (.opt (d[3]?) fun y_26=>
  .ite ((ay (1+(ay (i8 (b8 ((i8 y_3).tmod 5))))))==4) (.opt (d[0]?) fun y_27=>
  .ite ((i8 (b8 ((i8 y_27).tmod 2)))==0) (.ite ((s.Seen.length:Int)==3) (.ite (cL (ay ((ay (1+(ay (i8 (b8 ((i8 y_2).tmod 3))))))-1)) s.Seen.length) (.opt (s.Seen[(ay ((ay (1+(ay (i8 (b8 ((i8 y_2).tmod 3))))))-1)).toNat]?) fun y_28=>
    .opt (d[0]?) fun y_29=>
    .ite (cL (i8 (b8 ((i8 (b8 (qE ((i8 y_29).tdiv 8)))).tmod 7))) 7) (.opt ([1,1,1,1,0,(-1),2][(i8 (b8 ((i8 (b8 (qE ((i8 y_29).tdiv 8)))).tmod 7))).toNat]?) fun y_30=>
    .opt (d[0]?) fun y_31=>
    .ite ((i8 (b8 ((i8 y_31).tmod 32)))==31) (.opt (aZ n_ (bf.mk (ay (1+(ay (i8 (b8 ((i8 y_3).tmod 5)))))) (ay (1+(ay (i8 (b8 ((i8 y_2).tmod 3)))))) (ay (s.aB.S.aP+1)) (imax 1 (ay (y_28+y_30))) [] (ay (1+(ay (i8 (b8 ((i8 y_4).tmod 2)))))) 0 [])) fun r_32=>
     .ret r_32)
    (.opt (aZ n_ (bf.mk (ay (1+(ay (i8 (b8 ((i8 y_3).tmod 5)))))) (ay (1+(ay (i8 (b8 ((i8 y_2).tmod 3)))))) s.aB.S.aP (imax 1 (ay (y_28+y_30))) [] (ay (1+(ay (i8 (b8 ((i8 y_4).tmod 2)))))) 0 [])) fun r_33=>
    .ret r_33)) .fail) .fail)
   (.opt (d[0]?) fun y_34=>
   .ite ((i8 (b8 ((i8 y_34).tmod 32)))==31) (.opt (aZ n_ (bf.mk (ay (1+(ay (i8 (b8 ((i8 y_3).tmod 5)))))) (ay (1+(ay (i8 (b8 ((i8 y_2).tmod 3)))))) (ay (s.aB.S.aP+1)) 1 [] (ay (1+(ay (i8 (b8 ((i8 y_4).tmod 2)))))) 0 [])) fun r_35=>
   .ret r_35)
   (.opt (aZ n_ (bf.mk (ay (1+(ay (i8 (b8 ((i8 y_3).tmod 5)))))) (ay (1+(ay (i8 (b8 ((i8 y_2).tmod 3)))))) s.aB.S.aP 1 [] (ay (1+(ay (i8 (b8 ((i8 y_4).tmod 2)))))) 0 [])) fun r_36=>
   .ret r_36)))
  (.ite ((s.Seen.length:Int)==3) (.ite (cL (ay ((ay (1+(ay (i8 (b8 ((i8 y_2).tmod 3))))))-1)) s.Seen.length) (.opt (s.Seen[(ay ((ay (1+(ay (i8 (b8 ((i8 y_2).tmod 3))))))-1)).toNat]?) fun y_37=>
   .opt (d[0]?) fun y_38=>
   .ite (cL (i8 (b8 ((i8 (b8 (qE ((i8 y_38).tdiv 8)))).tmod 7))) 7) (.opt ([1,1,1,1,0,(-1),2][(i8 (b8 ((i8 (b8 (qE ((i8 y_38).tdiv 8)))).tmod 7))).toNat]?) fun y_39=>
    .opt (d[0]?) fun y_40=>
    .ite ((i8 (b8 ((i8 y_40).tmod 32)))==31) (.opt (aZ n_ (bf.mk (ay (1+(ay (i8 (b8 ((i8 y_3).tmod 5)))))) (ay (1+(ay (i8 (b8 ((i8 y_2).tmod 3)))))) (ay (s.aB.S.aP+1)) (imax 1 (ay (y_37+y_39))) [] (ay (1+(ay (i8 (b8 ((i8 y_4).tmod 2)))))) 0 [(aX.mk (ay (i8 (b8 ((i8 y_26).tmod 9)))) [119,114])])) fun r_41=>
    .ret r_41)
    (.opt (aZ n_ (bf.mk (ay (1+(ay (i8 (b8 ((i8 y_3).tmod 5)))))) (ay (1+(ay (i8 (b8 ((i8 y_2).tmod 3)))))) s.aB.S.aP (imax 1 (ay (y_37+y_39))) [] (ay (1+(ay (i8 (b8 ((i8 y_4).tmod 2)))))) 0 [(aX.mk (ay (i8 (b8 ((i8 y_26).tmod 9)))) [119,114])])) fun r_42=>
    .ret r_42)) .fail) .fail)
  (.opt (d[0]?) fun y_43=>
  .ite ((i8 (b8 ((i8 y_43).tmod 32)))==31) (.opt (aZ n_ (bf.mk (ay (1+(ay (i8 (b8 ((i8 y_3).tmod 5)))))) (ay (1+(ay (i8 (b8 ((i8 y_2).tmod 3)))))) (ay (s.aB.S.aP+1)) 1 [] (ay (1+(ay (i8 (b8 ((i8 y_4).tmod 2)))))) 0 [(aX.mk (ay (i8 (b8 ((i8 y_26).tmod 9)))) [119,114])])) fun r_44=>
   .ret r_44)
  (.opt (aZ n_ (bf.mk (ay (1+(ay (i8 (b8 ((i8 y_3).tmod 5)))))) (ay (1+(ay (i8 (b8 ((i8 y_2).tmod 3)))))) s.aB.S.aP 1 [] (ay (1+(ay (i8 (b8 ((i8 y_4).tmod 2)))))) 0 [(aX.mk (ay (i8 (b8 ((i8 y_26).tmod 9)))) [119,114])])) fun r_45=>
  .ret r_45))))
  (.ite ((s.Seen.length:Int)==3) (.ite (cL (ay ((ay (1+(ay (i8 (b8 ((i8 y_2).tmod 3))))))-1)) s.Seen.length) (.opt (s.Seen[(ay ((ay (1+(ay (i8 (b8 ((i8 y_2).tmod 3))))))-1)).toNat]?) fun y_46=>
   .opt (d[0]?) fun y_47=>
   .ite (cL (i8 (b8 ((i8 (b8 (qE ((i8 y_47).tdiv 8)))).tmod 7))) 7) (.opt ([1,1,1,1,0,(-1),2][(i8 (b8 ((i8 (b8 (qE ((i8 y_47).tdiv 8)))).tmod 7))).toNat]?) fun y_48=>
   .opt (d[0]?) fun y_49=>
   .ite ((i8 (b8 ((i8 y_49).tmod 32)))==31) (.opt (aZ n_ (bf.mk (ay (1+(ay (i8 (b8 ((i8 y_3).tmod 5)))))) (ay (1+(ay (i8 (b8 ((i8 y_2).tmod 3)))))) (ay (s.aB.S.aP+1)) (imax 1 (ay (y_46+y_48))) [] (ay (1+(ay (i8 (b8 ((i8 y_4).tmod 2)))))) 0 [(aX.mk (ay (i8 (b8 ((i8 y_26).tmod 9)))) [119,114])])) fun r_50=>
    .ret r_50)
   (.opt (aZ n_ (bf.mk (ay (1+(ay (i8 (b8 ((i8 y_3).tmod 5)))))) (ay (1+(ay (i8 (b8 ((i8 y_2).tmod 3)))))) s.aB.S.aP (imax 1 (ay (y_46+y_48))) [] (ay (1+(ay (i8 (b8 ((i8 y_4).tmod 2)))))) 0 [(aX.mk (ay (i8 (b8 ((i8 y_26).tmod 9)))) [119,114])])) fun r_51=>
   .ret r_51)) .fail) .fail)
  (.opt (d[0]?) fun y_52=>
  .ite ((i8 (b8 ((i8 y_52).tmod 32)))==31) (.opt (aZ n_ (bf.mk (ay (1+(ay (i8 (b8 ((i8 y_3).tmod 5)))))) (ay (1+(ay (i8 (b8 ((i8 y_2).tmod 3)))))) (ay (s.aB.S.aP+1)) 1 [] (ay (1+(ay (i8 (b8 ((i8 y_4).tmod 2)))))) 0 [(aX.mk (ay (i8 (b8 ((i8 y_26).tmod 9)))) [119,114])])) fun r_53=>
  .ret r_53)
  (.opt (aZ n_ (bf.mk (ay (1+(ay (i8 (b8 ((i8 y_3).tmod 5)))))) (ay (1+(ay (i8 (b8 ((i8 y_2).tmod 3)))))) s.aB.S.aP 1 [] (ay (1+(ay (i8 (b8 ((i8 y_4).tmod 2)))))) 0 [(aX.mk (ay (i8 (b8 ((i8 y_26).tmod 9)))) [119,114])])) fun r_54=>
  .ret r_54))))
 (.ite ((ay (1+(ay (i8 (b8 ((i8 y_3).tmod 5))))))==4) (.opt (d[3]?) fun y_55=>
  .ite ((ay (1+(ay (i8 (b8 ((i8 y_3).tmod 5))))))==4) (.opt (d[0]?) fun y_56=>
  .ite ((i8 (b8 ((i8 y_56).tmod 2)))==0) (.ite ((s.Seen.length:Int)==3) (.ite (cL (ay ((ay (1+(ay (i8 (b8 ((i8 y_2).tmod 3))))))-1)) s.Seen.length) (.opt (s.Seen[(ay ((ay (1+(ay (i8 (b8 ((i8 y_2).tmod 3))))))-1)).toNat]?) fun y_57=>
    .opt (d[0]?) fun y_58=>
    .ite (cL (i8 (b8 ((i8 (b8 (qE ((i8 y_58).tdiv 8)))).tmod 7))) 7) (.opt ([1,1,1,1,0,(-1),2][(i8 (b8 ((i8 (b8 (qE ((i8 y_58).tdiv 8)))).tmod 7))).toNat]?) fun y_59=>
    .opt (d[0]?) fun y_60=>
    .ite ((i8 (b8 ((i8 y_60).tmod 32)))==31) (.opt (aZ n_ (bf.mk (ay (1+(ay (i8 (b8 ((i8 y_3).tmod 5)))))) (ay (1+(ay (i8 (b8 ((i8 y_2).tmod 3)))))) (ay (s.aB.S.aP+1)) (imax 1 (ay (y_57+y_59))) [] (ay (1+(ay (i8 (b8 ((i8 y_4).tmod 2)))))) 0 [])) fun r_61=>
     .ret r_61)
    (.opt (aZ n_ (bf.mk (ay (1+(ay (i8 (b8 ((i8 y_3).tmod 5)))))) (ay (1+(ay (i8 (b8 ((i8 y_2).tmod 3)))))) s.aB.S.aP (imax 1 (ay (y_57+y_59))) [] (ay (1+(ay (i8 (b8 ((i8 y_4).tmod 2)))))) 0 [])) fun r_62=>
    .ret r_62)) .fail) .fail)
   (.opt (d[0]?) fun y_63=>
   .ite ((i8 (b8 ((i8 y_63).tmod 32)))==31) (.opt (aZ n_ (bf.mk (ay (1+(ay (i8 (b8 ((i8 y_3).tmod 5)))))) (ay (1+(ay (i8 (b8 ((i8 y_2).tmod 3)))))) (ay (s.aB.S.aP+1)) 1 [] (ay (1+(ay (i8 (b8 ((i8 y_4).tmod 2)))))) 0 [])) fun r_64=>
   .ret r_64)
   (.opt (aZ n_ (bf.mk (ay (1+(ay (i8 (b8 ((i8 y_3).tmod 5)))))) (ay (1+(ay (i8 (b8 ((i8 y_2).tmod 3)))))) s.aB.S.aP 1 [] (ay (1+(ay (i8 (b8 ((i8 y_4).tmod 2)))))) 0 [])) fun r_65=>
   .ret r_65)))
  (.ite ((s.Seen.length:Int)==3) (.ite (cL (ay ((ay (1+(ay (i8 (b8 ((i8 y_2).tmod 3))))))-1)) s.Seen.length) (.opt (s.Seen[(ay ((ay (1+(ay (i8 (b8 ((i8 y_2).tmod 3))))))-1)).toNat]?) fun y_66=>
   .opt (d[0]?) fun y_67=>
   .ite (cL (i8 (b8 ((i8 (b8 (qE ((i8 y_67).tdiv 8)))).tmod 7))) 7) (.opt ([1,1,1,1,0,(-1),2][(i8 (b8 ((i8 (b8 (qE ((i8 y_67).tdiv 8)))).tmod 7))).toNat]?) fun y_68=>
    .opt (d[0]?) fun y_69=>
    .ite ((i8 (b8 ((i8 y_69).tmod 32)))==31) (.opt (aZ n_ (bf.mk (ay (1+(ay (i8 (b8 ((i8 y_3).tmod 5)))))) (ay (1+(ay (i8 (b8 ((i8 y_2).tmod 3)))))) (ay (s.aB.S.aP+1)) (imax 1 (ay (y_66+y_68))) [] (ay (1+(ay (i8 (b8 ((i8 y_4).tmod 2)))))) 0 [(aX.mk (ay (i8 (b8 ((i8 y_55).tmod 9)))) [119,114])])) fun r_70=>
    .ret r_70)
    (.opt (aZ n_ (bf.mk (ay (1+(ay (i8 (b8 ((i8 y_3).tmod 5)))))) (ay (1+(ay (i8 (b8 ((i8 y_2).tmod 3)))))) s.aB.S.aP (imax 1 (ay (y_66+y_68))) [] (ay (1+(ay (i8 (b8 ((i8 y_4).tmod 2)))))) 0 [(aX.mk (ay (i8 (b8 ((i8 y_55).tmod 9)))) [119,114])])) fun r_71=>
    .ret r_71)) .fail) .fail)
  (.opt (d[0]?) fun y_72=>
  .ite ((i8 (b8 ((i8 y_72).tmod 32)))==31) (.opt (aZ n_ (bf.mk (ay (1+(ay (i8 (b8 ((i8 y_3).tmod 5)))))) (ay (1+(ay (i8 (b8 ((i8 y_2).tmod 3)))))) (ay (s.aB.S.aP+1)) 1 [] (ay (1+(ay (i8 (b8 ((i8 y_4).tmod 2)))))) 0 [(aX.mk (ay (i8 (b8 ((i8 y_55).tmod 9)))) [119,114])])) fun r_73=>
   .ret r_73)
  (.opt (aZ n_ (bf.mk (ay (1+(ay (i8 (b8 ((i8 y_3).tmod 5)))))) (ay (1+(ay (i8 (b8 ((i8 y_2).tmod 3)))))) s.aB.S.aP 1 [] (ay (1+(ay (i8 (b8 ((i8 y_4).tmod 2)))))) 0 [(aX.mk (ay (i8 (b8 ((i8 y_55).tmod 9)))) [119,114])])) fun r_74=>
  .ret r_74))))
  (.ite ((s.Seen.length:Int)==3) (.ite (cL (ay ((ay (1+(ay (i8 (b8 ((i8 y_2).tmod 3))))))-1)) s.Seen.length) (.opt (s.Seen[(ay ((ay (1+(ay (i8 (b8 ((i8 y_2).tmod 3))))))-1)).toNat]?) fun y_75=>
   .opt (d[0]?) fun y_76=>
   .ite (cL (i8 (b8 ((i8 (b8 (qE ((i8 y_76).tdiv 8)))).tmod 7))) 7) (.opt ([1,1,1,1,0,(-1),2][(i8 (b8 ((i8 (b8 (qE ((i8 y_76).tdiv 8)))).tmod 7))).toNat]?) fun y_77=>
   .opt (d[0]?) fun y_78=>
   .ite ((i8 (b8 ((i8 y_78).tmod 32)))==31) (.opt (aZ n_ (bf.mk (ay (1+(ay (i8 (b8 ((i8 y_3).tmod 5)))))) (ay (1+(ay (i8 (b8 ((i8 y_2).tmod 3)))))) (ay (s.aB.S.aP+1)) (imax 1 (ay (y_75+y_77))) [] (ay (1+(ay (i8 (b8 ((i8 y_4).tmod 2)))))) 0 [(aX.mk (ay (i8 (b8 ((i8 y_55).tmod 9)))) [119,114])])) fun r_79=>
    .ret r_79)
   (.opt (aZ n_ (bf.mk (ay (1+(ay (i8 (b8 ((i8 y_3).tmod 5)))))) (ay (1+(ay (i8 (b8 ((i8 y_2).tmod 3)))))) s.aB.S.aP (imax 1 (ay (y_75+y_77))) [] (ay (1+(ay (i8 (b8 ((i8 y_4).tmod 2)))))) 0 [(aX.mk (ay (i8 (b8 ((i8 y_55).tmod 9)))) [119,114])])) fun r_80=>
   .ret r_80)) .fail) .fail)
  (.opt (d[0]?) fun y_81=>
  .ite ((i8 (b8 ((i8 y_81).tmod 32)))==31) (.opt (aZ n_ (bf.mk (ay (1+(ay (i8 (b8 ((i8 y_3).tmod 5)))))) (ay (1+(ay (i8 (b8 ((i8 y_2).tmod 3)))))) (ay (s.aB.S.aP+1)) 1 [] (ay (1+(ay (i8 (b8 ((i8 y_4).tmod 2)))))) 0 [(aX.mk (ay (i8 (b8 ((i8 y_55).tmod 9)))) [119,114])])) fun r_82=>
  .ret r_82)
  (.opt (aZ n_ (bf.mk (ay (1+(ay (i8 (b8 ((i8 y_3).tmod 5)))))) (ay (1+(ay (i8 (b8 ((i8 y_2).tmod 3)))))) s.aB.S.aP 1 [] (ay (1+(ay (i8 (b8 ((i8 y_4).tmod 2)))))) 0 [(aX.mk (ay (i8 (b8 ((i8 y_55).tmod 9)))) [119,114])])) fun r_83=>
  .ret r_83))))
 (.ite ((s.Seen.length:Int)==3) (.ite (cL (ay ((ay (1+(ay (i8 (b8 ((i8 y_2).tmod 3))))))-1)) s.Seen.length) (.opt (s.Seen[(ay ((ay (1+(ay (i8 (b8 ((i8 y_2).tmod 3))))))-1)).toNat]?) fun y_84=>
  .opt (d[0]?) fun y_85=>
  .ite (cL (i8 (b8 ((i8 (b8 (qE ((i8 y_85).tdiv 8)))).tmod 7))) 7) (.opt ([1,1,1,1,0,(-1),2][(i8 (b8 ((i8 (b8 (qE ((i8 y_85).tdiv 8)))).tmod 7))).toNat]?) fun y_86=>
   .opt (d[0]?) fun y_87=>
   .ite ((i8 (b8 ((i8 y_87).tmod 32)))==31) (.opt (aZ n_ (bf.mk (ay (1+(ay (i8 (b8 ((i8 y_3).tmod 5)))))) (ay (1+(ay (i8 (b8 ((i8 y_2).tmod 3)))))) (ay (s.aB.S.aP+1)) (imax 1 (ay (y_84+y_86))) [] (ay (1+(ay (i8 (b8 ((i8 y_4).tmod 2)))))) 0 [])) fun r_88=>
   .ret r_88)
   (.opt (aZ n_ (bf.mk (ay (1+(ay (i8 (b8 ((i8 y_3).tmod 5)))))) (ay (1+(ay (i8 (b8 ((i8 y_2).tmod 3)))))) s.aB.S.aP (imax 1 (ay (y_84+y_86))) [] (ay (1+(ay (i8 (b8 ((i8 y_4).tmod 2)))))) 0 [])) fun r_89=>
   .ret r_89)) .fail) .fail)
 (.opt (d[0]?) fun y_90=>
 .ite ((i8 (b8 ((i8 y_90).tmod 32)))==31) (.opt (aZ n_ (bf.mk (ay (1+(ay (i8 (b8 ((i8 y_3).tmod 5)))))) (ay (1+(ay (i8 (b8 ((i8 y_2).tmod 3)))))) (ay (s.aB.S.aP+1)) 1 [] (ay (1+(ay (i8 (b8 ((i8 y_4).tmod 2)))))) 0 [])) fun r_91=>
  .ret r_91)
 (.opt (aZ n_ (bf.mk (ay (1+(ay (i8 (b8 ((i8 y_3).tmod 5)))))) (ay (1+(ay (i8 (b8 ((i8 y_2).tmod 3)))))) s.aB.S.aP 1 [] (ay (1+(ay (i8 (b8 ((i8 y_4).tmod 2)))))) 0 [])) fun r_92=>
 .ret r_92))))))) .fail
def AL:=fun s d=>(vH n_ s d).get
def iy (a:List bQ) (b:List bQ) (v_:Int):Tree (Int ⊕ (Unit ⊕ Unit)):=
 .ite (decide (v_<(a.length:Int))) (.ite (cL v_ a.length) (.opt (a[v_.toNat]?) fun y_1=>
  .ite (cL v_ b.length) (.opt (b[v_.toNat]?) fun y_2=>
  .ite (!(bQ.ee y_1 y_2)) (.ret (.inr (.inl ())))
  (.ret (.inl (ay (v_+1))))) .fail) .fail)
 (.ret (.inr (.inr ())))
def jd:=fun a b v_=>(iy a b v_).get
def rH:=fun a b i=>iter (jd a b) n_ i
def nE (a:List bQ) (b:List bQ):Tree Bool:=
 .ite ((a.length:Int) != (b.length:Int)) (.ret false)
 (.opt (rH n_ a b 0) fun r_1=>
 ba r_1 (fun a_2=>
 .ret false) fun b_3=>
 .ret true)
def l9:=fun a b=>(nE n_ a b).get
def mz (a:List (List UInt8)) (b:List (List UInt8)) (v_:Int):Tree (Int ⊕ (Unit ⊕ Unit)):=
 .ite (decide (v_<(a.length:Int))) (.ite (cL v_ a.length) (.opt (a[v_.toNat]?) fun y_1=>
  .ite (cL v_ b.length) (.opt (b[v_.toNat]?) fun y_2=>
  .ite (!(y_1==y_2)) (.ret (.inr (.inl ())))
  (.ret (.inl (ay (v_+1))))) .fail) .fail)
 (.ret (.inr (.inr ())))
def nB:=fun a b v_=>(mz a b v_).get
def sM:=fun a b i=>iter (nB a b) n_ i
def oI (a:List (List UInt8)) (b:List (List UInt8)):Tree Bool:=
 .ite ((a.length:Int) != (b.length:Int)) (.ret false)
 (.opt (sM n_ a b 0) fun r_1=>
 ba r_1 (fun a_2=>
 .ret false) fun b_3=>
 .ret true)
def rE:=fun a b=>(oI n_ a b).get
def nC (a:List bJ) (b:List bJ) (v_:Int):Tree (Int ⊕ (Unit ⊕ Unit)):=
 .ite (decide (v_<(a.length:Int))) (.ite (cL v_ a.length) (.opt (a[v_.toNat]?) fun y_1=>
  .ite (cL v_ b.length) (.opt (b[v_.toNat]?) fun y_2=>
  .ite (!(bJ.ee y_1 y_2)) (.ret (.inr (.inl ())))
  (.ret (.inl (ay (v_+1))))) .fail) .fail)
 (.ret (.inr (.inr ())))
def oJ:=fun a b v_=>(nC a b v_).get
def uz:=fun a b i=>iter (oJ a b) n_ i
def qb (a:List bJ) (b:List bJ):Tree Bool:=
 .ite ((a.length:Int) != (b.length:Int)) (.ret false)
 (.opt (uz n_ a b 0) fun r_1=>
 ba r_1 (fun a_2=>
 .ret false) fun b_3=>
 .ret true)
def pe:=fun a b=>(qb n_ a b).get
def xE (a:aT) (b:aT):Tree Bool:=
 .opt (rE n_ a.bz b.bz) fun r_1=>
 .ite r_1 (.opt (pe n_ a.bM b.bM) fun r_2=>
 .ite r_2 (.ite (a.im==b.im) (.ret (a.Down==b.Down))
  (.ret false))
 (.ret false))
 (.ret false)
def CW:=fun a b=>(xE n_ a b).get
def my (a:List bC) (b:List bC) (v_:Int):Tree (Int ⊕ (Unit ⊕ Unit)):=
 .ite (decide (v_<(a.length:Int))) (.ite (cL v_ a.length) (.opt (a[v_.toNat]?) fun y_1=>
  .ite (cL v_ b.length) (.opt (b[v_.toNat]?) fun y_2=>
  .ite (!(bC.ee y_1 y_2)) (.ret (.inr (.inl ())))
  (.ret (.inl (ay (v_+1))))) .fail) .fail)
 (.ret (.inr (.inr ())))
def nA:=fun a b v_=>(my a b v_).get
def sL:=fun a b i=>iter (nA a b) n_ i
def oH (a:List bC) (b:List bC):Tree Bool:=
 .ite ((a.length:Int) != (b.length:Int)) (.ret false)
 (.opt (sL n_ a b 0) fun r_1=>
 ba r_1 (fun a_2=>
 .ret false) fun b_3=>
 .ret true)
def rC:=fun a b=>(oH n_ a b).get
def mw (a:aI) (b:aI) (v_:Int):Tree (Int ⊕ (Unit ⊕ Unit)):=
 .ite (decide (v_<(a.aQ.length:Int))) (.ite (cL v_ a.aQ.length) (.opt (a.aQ[v_.toNat]?) fun y_1=>
  .ite (cL v_ b.aQ.length) (.opt (b.aQ[v_.toNat]?) fun y_2=>
  .ite (!(bL.ee y_1 y_2)) (.ret (.inr (.inl ())))
  (.ret (.inl (ay (v_+1))))) .fail) .fail)
 (.ret (.inr (.inr ())))
def ny:=fun a b v_=>(mw a b v_).get
def sK:=fun a b i=>iter (ny a b) n_ i
def oG (a:aI) (b:aI):Tree Bool:=
 .ite ((a.aQ.length:Int) != (b.aQ.length:Int)) (.ret false)
 (.opt (rC n_ a.Marks b.Marks) fun r_1=>
 .ite (!r_1) (.ret false)
 (.ite (a.aP != b.aP) (.ret false)
 (.opt (sK n_ a b 0) fun r_2=>
 ba r_2 (fun a_3=>
 .ret false) fun b_4=>
 .ret true)))
def nz:=fun a b=>(oG n_ a b).get
def oF (a:bZ) (b:bZ):Tree Bool:=
 .opt (CW n_ a.D b.D) fun r_1=>
 .ite r_1 (.opt (nz n_ a.S b.S) fun r_2=>
 .ret r_2)
 (.ret false)
def rB:=fun a b=>(oF n_ a b).get
def gQ (a:List aS) (b:List aS) (v_:Int):Tree (Int ⊕ (Unit ⊕ Unit)):=
 .ite (decide (v_<(a.length:Int))) (.ite (cL v_ a.length) (.opt (a[v_.toNat]?) fun y_1=>
  .ite (cL v_ b.length) (.opt (b[v_.toNat]?) fun y_2=>
  .ite (!(aS.ee y_1 y_2)) (.ret (.inr (.inl ())))
  (.ret (.inl (ay (v_+1))))) .fail) .fail)
 (.ret (.inr (.inr ())))
def iA:=fun a b v_=>(gQ a b v_).get
def qy:=fun a b i=>iter (iA a b) n_ i
def mB (a:List aS) (b:List aS):Tree Bool:=
 .ite ((a.length:Int) != (b.length:Int)) (.ret false)
 (.opt (qy n_ a b 0) fun r_1=>
 ba r_1 (fun a_2=>
 .ret false) fun b_3=>
 .ret true)
def oK:=fun a b=>(mB n_ a b).get
def ix (a:List bA) (b:List bA) (v_:Int):Tree (Int ⊕ (Unit ⊕ Unit)):=
 .ite (decide (v_<(a.length:Int))) (.ite (cL v_ a.length) (.opt (a[v_.toNat]?) fun y_1=>
  .ite (cL v_ b.length) (.opt (b[v_.toNat]?) fun y_2=>
  .ite (!(bA.ee y_1 y_2)) (.ret (.inr (.inl ())))
  (.ret (.inl (ay (v_+1))))) .fail) .fail)
 (.ret (.inr (.inr ())))
def jc:=fun a b v_=>(ix a b v_).get
def rG:=fun a b i=>iter (jc a b) n_ i
def nD (a:List bA) (b:List bA):Tree Bool:=
 .ite ((a.length:Int) != (b.length:Int)) (.ret false)
 (.opt (rG n_ a b 0) fun r_1=>
 ba r_1 (fun a_2=>
 .ret false) fun b_3=>
 .ret true)
def qe:=fun a b=>(nD n_ a b).get
def oL (a:bR) (b:bR):Tree Bool:=
 .opt (oK n_ a.bD b.bD) fun r_1=>
 .ite r_1 (.opt (qe n_ a.cW b.cW) fun r_2=>
 .ret r_2)
 (.ret false)
def rI:=fun a b=>(oL n_ a b).get
def gP (a:aG) (b:aG) (v_:Int):Tree (Int ⊕ (Unit ⊕ Unit)):=
 .ite (decide (v_<(a.Seen.length:Int))) (.ite (cL v_ a.Seen.length) (.opt (a.Seen[v_.toNat]?) fun y_1=>
  .ite (cL v_ b.Seen.length) (.opt (b.Seen[v_.toNat]?) fun y_2=>
  .ite (y_1 != y_2) (.ret (.inr (.inl ())))
  (.ret (.inl (ay (v_+1))))) .fail) .fail)
 (.ret (.inr (.inr ())))
def iz:=fun a b v_=>(gP a b v_).get
def qx:=fun a b i=>iter (iz a b) n_ i
def mA (a:aG) (b:aG):Tree Bool:=
 .ite ((a.Seen.length:Int) != (b.Seen.length:Int)) (.ret false)
 (.opt (l9 n_ a.Told b.Told) fun r_1=>
 .ite (!r_1) (.ret false)
 (.opt (qx n_ a b 0) fun r_2=>
 ba r_2 (fun a_3=>
 .ret false) fun b_4=>
 .opt (rB n_ a.aB b.aB) fun r_5=>
 .ite r_5 (.opt (rI n_ a.aY b.aY) fun r_6=>
 .ite r_6 (.ite (a.gD==b.gD) (.ite (a.od==b.od) (.ite (a.wM==b.wM) (.ite (a.Live==b.Live) (.ret (a.fG==b.fG))
   (.ret false))
   (.ret false))
  (.ret false))
  (.ret false))
 (.ret false))
 (.ret false)))
def iJ:=fun a b=>(mA n_ a b).get
def pf (b:List UInt8) (n:Int) (v_:Int×Int):Tree ((Int×Int) ⊕ Int):=
 .ite (decide (v_.2<n)) (.ite (cL v_.2 b.length) (.opt (b[v_.2.toNat]?) fun y_1=>
  .ret (.inl ((ay ((ay (v_.1*256))+(ay (i8 y_1)))),(ay (v_.2+1))))) .fail)
 (.ret (.inr v_.1))
def qG:=fun b n v_=>(pf b n v_).get
def BS:=fun b n v i=>iter (qG b n) n_ (v,i)
def xG (b:List UInt8) (n:Int):Tree (Int×Bool):=
 .ite (decide (n<1)) (.ret (0,false))
 (.ite (decide (n>7)) (.ret (0,false))
 (.ite (decide ((b.length:Int)<n)) (.ret (0,false))
 (.opt (BS n_ b n 0 0) fun r_1=>
 .ret (r_1,true))))
def CX:=fun b n=>(xG n_ b n).get
def mC (n:Int) (r:bp):Tree (Int×bp):=
 .opt (CX n_ r.B n) fun r_1=>
 .ite (!r_1.2) (.ret (0,{r with wM:=true}))
 (.ite r.wM (.ret (0,r))
 (.ite (j2 n (r.B.length:Int) r.B.length) (.ret (r_1.1,{r with B:=(eD r.B n (r.B.length:Int))})) .fail))
def cK:=fun n r=>(mC n_ n r).get
def qc (b:List UInt8):Tree (List UInt8×Int×Bool):=
 .ite (decide ((b.length:Int)<1)) (.ret ([],0,false))
 (.ite (cL 0 b.length) (.opt (b[0]?) fun y_1=>
 .ite (decide ((ay ((b.length:Int)-1))<(ay (i8 y_1)))) (.ret ([],0,false))
 (.ite (cL 0 b.length) (.opt (b[0]?) fun y_2=>
  .ite (j2 1 (ay ((ay (i8 y_2))+1)) b.length) (.ret ((eD b 1 (ay ((ay (i8 y_2))+1))),(ay ((ay (i8 y_2))+1)),true)) .fail) .fail)) .fail)
def tv:=fun b=>(qc b).get
def lF (r:bp):Tree (List UInt8×bp):=
 .opt (tv r.B) fun r_1=>
 .ite (!r_1.2.2) (.ret ([],{r with wM:=true}))
 (.ite r.wM (.ret ([],r))
 (.ite (j2 r_1.2.1 (r.B.length:Int) r.B.length) (.ret (r_1.1,{r with B:=(eD r.B r_1.2.1 (r.B.length:Int))})) .fail))
def jU:=fun r=>(lF r).get
def jT (b:List UInt8) (v_:Int×bf×bp×bf):Tree ((Int×bf×bp×bf) ⊕ (bf×bp×bf)):=
 .ite (decide (v_.1>0)) (.ite (!v_.2.2.1.wM) (.opt (cK n_ 1 v_.2.2.1) fun r_1=>
  .opt (jU r_1.2) fun r_2=>
  .ite (decide ((v_.2.2.2.aN.length+1)≤dy)) (.ret (.inl ((ay (v_.1-1)),{v_.2.1 with aN:=[]},r_2.2,{v_.2.2.2 with aN:=(v_.2.2.2.aN++[(aX.mk r_1.1 r_2.1)])}))) .fail)
 (.ret (.inr ({v_.2.1 with aN:=[]},v_.2.2.1,v_.2.2.2))))
 (.ret (.inr ({v_.2.1 with aN:=[]},v_.2.2.1,v_.2.2.2)))
def fR:=fun b v_=>(jT n_ b v_).get
def kQ:=fun b n o0 r a=>iter (fR n_ b) n_ (n,o0,r,a)
def qd (b:List UInt8):Tree (bf×Bool):=
 .opt (cK n_ 1 (bp.mk b false)) fun r_1=>
 .opt (cK n_ 1 r_1.2) fun r_2=>
 .opt (cK n_ 4 r_2.2) fun r_3=>
 .opt (cK n_ 4 r_3.2) fun r_4=>
 .opt (jU r_4.2) fun r_5=>
 .opt (cK n_ 1 r_5.2) fun r_6=>
 .opt (cK n_ 1 r_6.2) fun r_7=>
 .opt (cK n_ 1 r_7.2) fun r_8=>
 .opt (kQ n_ b r_8.1 (bf.mk 0 0 0 0 [] 0 0 []) r_8.2 (bf.mk r_1.1 r_2.1 r_3.1 r_4.1 r_5.1 r_6.1 r_7.1 [])) fun r_9=>
 .ite r_9.2.1.wM (.ret ((bf.mk 0 0 0 0 [] 0 0 []),false))
 (.opt (qI n_ r_9.2.2) fun r_10=>
 .ite (!r_10) (.ret ((bf.mk 0 0 0 0 [] 0 0 []),false))
 (.opt (aZ n_ r_9.2.2) fun r_11=>
 .ite (!(r_11==b)) (.ret ((bf.mk 0 0 0 0 [] 0 0 []),false))
 (.ret (r_9.2.2,true))))
def tw:=fun b=>(qd n_ b).get
def kz (l:List (List UInt8)) (which:UInt8) (v_:Int×aG×List (List UInt8)):Tree ((Int×aG×List (List UInt8)) ⊕ ((aG×aG×aG×List (List UInt8)) ⊕ (aG×List (List UInt8)))):=
 .ite (decide (v_.1<(l.length:Int))) (.ite (cL v_.1 l.length) (.opt (l[v_.1.toNat]?) fun y_1=>
  .opt (AL n_ v_.2.1 y_1) fun r_2=>
  .opt (gM n_ v_.2.1 r_2) fun r_3=>
  .ite ((r_3.2.length:Int)==1) (.ite (cL 0 r_3.2.length) (.opt (r_3.2[0]?) fun y_4=>
   .ite (y_4.Kind==1) (.opt (gM n_ r_3.1 r_2) fun r_5=>
   .opt (iJ n_ r_5.1 r_3.1) fun r_6=>
   .ite (!r_6) (.ret (.inr (.inl (v_.2.1,r_3.1,r_5.1,v_.2.2))))
   (.opt (l9 n_ r_5.2 r_3.2) fun r_7=>
   .ite (!r_7) (.ret (.inr (.inl (v_.2.1,r_3.1,r_5.1,v_.2.2))))
   (.ite (decide ((v_.2.2.length+1)≤dy)) (.ret (.inl ((ay (v_.1+1)),r_3.1,(v_.2.2++[r_2])))) .fail)))
   (.ite (decide ((v_.2.2.length+1)≤dy)) (.ret (.inl ((ay (v_.1+1)),r_3.1,(v_.2.2++[r_2])))) .fail)) .fail)
  (.ite (decide ((v_.2.2.length+1)≤dy)) (.ret (.inl ((ay (v_.1+1)),r_3.1,(v_.2.2++[r_2])))) .fail)) .fail)
 (.ret (.inr (.inr (v_.2.1,v_.2.2))))
def lH:=fun l which v_=>(kz n_ l which v_).get
def qA:=fun l which i s sent=>iter (lH n_ l which) n_ (i,s,sent)
def mF (l:List (List UInt8)) (which:UInt8):Tree Bool:=
 .opt (D3 n_) fun r_1=>
 .ite (!r_1) (.ret false)
 (.ite (decide ((l.length:Int)>30)) (.ret true)
 (.opt (vh n_ 0) fun r_2=>
 .opt (qA n_ l which 0 r_2 []) fun r_3=>
 ba r_3 (fun a_4=>
 .ret false) fun b_5=>
 .ite ((b_5.2.length:Int)==0) (.ret true)
 (.ite ((b_5.2.length:Int)==0) .fail
 (.ite (cL ((ay (i8 which)).tmod (b_5.2.length:Int)) b_5.2.length) (.opt (b_5.2[((ay (i8 which)).tmod (b_5.2.length:Int)).toNat]?) fun y_6=>
 .opt (tw n_ y_6) fun r_7=>
 .ite (!r_7.2) (.ret r_7.2)
 (.ite ((b_5.1.Seen.length:Int) != 3) (.ret r_7.2)
 (.ite (r_7.1.aP != b_5.1.aB.S.aP) (.ret r_7.2)
 (.ite (cL (ay (r_7.1.bg-1)) b_5.1.Seen.length) (.opt (b_5.1.Seen[(ay (r_7.1.bg-1)).toNat]?) fun y_8=>
  .ite (decide (r_7.1.Seq≥y_8)) (.ret r_7.2)
  (.opt (gM n_ b_5.1 y_6) fun r_9=>
  .opt (iJ n_ r_9.1 b_5.1) fun r_10=>
  .ite r_10 (.ret ((r_9.2.length:Int)==0))
  (.ret false))) .fail)))) .fail))))
def uD:=fun l which=>(mF n_ l which).get
end
end Go.Proofs.YtlejgahbbfeagaaGreatDoor.N
