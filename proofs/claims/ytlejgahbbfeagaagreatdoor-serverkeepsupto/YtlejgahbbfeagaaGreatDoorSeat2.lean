/- The nice functions: what the program's functions come to. -/
import Derived.Test.YtlejgahbbfeagaaGreatDoorBase5
set_option linter.unusedVariables false
set_option maxRecDepth 10000
namespace Go.Proofs.YtlejgahbbfeagaaGreatDoor.N
open Go.Proofs.YtlejgahbbfeagaaGreatDoor.D (Tree TT bf)
noncomputable section
variable (n_:Nat)
def Fh (n:Int):Tree (List bA):=
 .ite (decide (n<1)) (.ret ([]))
 (.ite (Y4 n n) (.ret (List.replicate n.toNat (bA.mk 0 0 0 0))) .fail)
def Qt:=fun n=>(Fh n).get
def Dq:Tree aG:=
 .opt (Qt 3) fun r_1=>
 .ret (aG.mk [(bL.mk [] 0 []),(bL.mk [] 0 []),(bL.mk [] 0 []),(bL.mk [] 0 []),(bL.mk [] 0 []),(bL.mk [] 0 [])] r_1 0)
def GX:=(Dq).get
def qS (v:Int):TT Bool:=
 .ite (decide (v≥0)) (.ret (decide (v≤1073741824)))
 (.ret false)
def fc:=fun v=>(qS v).val
def sC (name:List UInt8) (t7:Int) (r0:List UInt8) (v_:Int):Tree (Int ⊕ (Unit ⊕ Unit)):=
 .ite (decide (v_<t7)) (.ite (cN v_ r0.length) (.opt (r0[v_.toNat]?) fun y_1=>
  .ite (decide ((i8 y_1)<33)) (.ret (.inr (.inl ())))
  (.ite (decide ((i8 y_1)>126)) (.ret (.inr (.inl ())))
  (.ret (.inl (ay (v_+1)))))) .fail)
 (.ret (.inr (.inr ())))
def AA:=fun name t7 r0 v_=>(sC name t7 r0 v_).get
def AB:=fun name t7 r0 t8=>iter (AA name t7 r0) n_ t8
def CY (name:List UInt8):Tree Bool:=
 .opt (AB n_ name (name.length:Int) name 0) fun r_1=>
 bf r_1 (fun a_2=>
 .ret false) fun b_3=>
 .ite (decide ((name.length:Int)≥1)) (.ret (decide ((name.length:Int)≤8)))
 (.ret false)
def yO:=fun name=>(CY n_ name).get
def pE (f:bL):Tree Bool:=
 .ite (f.Name==[]) (.ret (bL.er f (bL.mk [] 0 [])))
 (.opt (yO n_ f.Name) fun r_1=>
 .ite r_1 (.ite (decide (f.pY≥1)) (.ite (fc f.pY) (.ret (decide ((f.Body.length:Int)≤24)))
  (.ret false))
 (.ret false))
 (.ret false))
def sM:=fun f=>(pE n_ f).get
def qT (g:bL) (o0:bL):TT Bool:=
 .ite (!(o0.Name==[])) (.ret (g.Name==o0.Name))
 (.ret false)
def eC:=fun g o0=>(qT g o0).val
def gu (s:List bL) (t7:Int) (o0:bL) (v_:Int):Tree (Int ⊕ (Int ⊕ Unit)):=
 .ite (decide (v_<t7)) (.ite (cN v_ s.length) (.opt (s[v_.toNat]?) fun y_1=>
  .ite (eC y_1 o0) (.ret (.inr (.inl v_)))
  (.ret (.inl (ay (v_+1))))) .fail)
 (.ret (.inr (.inr ())))
def gX:=fun s t7 o0 v_=>(gu s t7 o0 v_).get
def lV:=fun s t7 o0 t8=>iter (gX s t7 o0) n_ t8
def iC (s:List bL) (o0:bL):Tree Int:=
 .opt (lV n_ s (s.length:Int) o0 0) fun r_1=>
 bf r_1 (fun a_2=>
 .ret a_2) fun b_3=>
 .ret (-1)
def nU:=fun s o0=>(iC n_ s o0).get
def fY (s:List bL) (o0:bL):Tree Bool:=
 .opt (nU n_ s o0) fun r_1=>
 .ret (decide (r_1≥0))
def hH:=fun s o0=>(fY n_ s o0).get
def pD (m:bA):TT Bool:=
 .ite (fc m.Seq) (.ite (decide (m.aX≥0)) (.ite (decide (m.aX≤6)) (.ite (fc m.pY) (.ite (decide (m.Gw≥0)) (.ret (decide (m.Gw≤3)))
   (.ret false))
  (.ret false))
  (.ret false))
 (.ret false))
 (.ret false)
def oQ:=fun m=>(pD m).val
def fe (m:bA):Bool:=(!(oQ m))
def gr (s:List bA) (t7:Int) (v_:Int):Tree (Int ⊕ (Int ⊕ Unit)):=
 .ite (decide (v_<t7)) (.ite (cN v_ s.length) (.opt (s[v_.toNat]?) fun y_1=>
  .ite (fe y_1) (.ret (.inr (.inl v_)))
  (.ret (.inl (ay (v_+1))))) .fail)
 (.ret (.inr (.inr ())))
def gU:=fun s t7 v_=>(gr s t7 v_).get
def lU:=fun s t7 t8=>iter (gU s t7) n_ t8
def iB (s:List bA):Tree Int:=
 .opt (lU n_ s (s.length:Int) 0) fun r_1=>
 bf r_1 (fun a_2=>
 .ret a_2) fun b_3=>
 .ret (-1)
def nT:=fun s=>(iB n_ s).get
def fX (s:List bA):Tree Bool:=
 .opt (nT n_ s) fun r_1=>
 .ret (decide (r_1≥0))
def hC:=fun s=>(fX n_ s).get
def sN (t23:List bL) (t24:Int) (s:aG) (v_:Int):Tree (Int ⊕ (bL ⊕ Unit)):=
 .ite (decide (v_<t24)) (.ite (cN v_ t23.length) (.opt (t23[v_.toNat]?) fun y_1=>
  .opt (sM n_ y_1) fun r_2=>
  .ite (!r_2) (.ret (.inr (.inl y_1)))
  (.ite (kJ 0 v_ s.aP.length) (.opt (hH n_ (eo s.aP 0 v_) y_1) fun r_3=>
  .ite r_3 (.ret (.inr (.inl y_1)))
  (.ret (.inl (ay (v_+1))))) .fail)) .fail)
 (.ret (.inr (.inr ())))
def uy:=fun t23 t24 s v_=>(sN n_ t23 t24 s v_).get
def A9:=fun t23 t24 s t25=>iter (uy n_ t23 t24 s) n_ t25
def wM (s:aG):Tree Bool:=
 .ite ((s.aP.length:Int) != 6) (.ret false)
 (.ite ((s.Marks.length:Int) != 3) (.ret false)
 (.ite (!(fc s.aS)) (.ret false)
 (.opt (A9 n_ s.aP (s.aP.length:Int) s 0) fun r_1=>
 bf r_1 (fun a_2=>
 .ret false) fun b_3=>
 .opt (hC n_ s.Marks) fun r_4=>
 .ret (!r_4))))
def yB:=fun s=>(wM n_ s).get
def nP (v:Int) (v_:Int×List UInt8):Tree ((Int×List UInt8) ⊕ (List UInt8)):=
 .ite (decide (v_.1≥0)) (.ite (decide ((ay (8*v_.1))<0)) .fail
 (.ite (decide ((v_.2.length+1)≤dK)) (.ret (.inl ((ay (v_.1-1)),(v_.2++[(b8 (qj (qX .i64 v (ay (8*v_.1)))))])))) .fail))
 (.ret (.inr v_.2))
def sG:=fun v v_=>(nP v v_).get
def DR:=fun v n b=>iter (sG v) n_ (n,b)
def rN (b:List UInt8) (v:Int) (n:Int):Tree (List UInt8):=
 .ite (decide (n<1)) (.ret b)
 (.ite (decide (n>8)) (.ret b)
 (.opt (DR n_ v (ay (n-1)) b) fun r_1=>
 .ret r_1))
def di:=fun b v n=>(rN n_ b v n).get
def sF (b:List UInt8) (s:List UInt8):Tree (List UInt8):=
 .ite (decide ((s.length:Int)>255)) (.ret b)
 (.ite (decide ((b.length+1)≤dK)) (.ite (decide (((b++[(b8 (qj (s.length:Int)))]).length+s.length)≤dK)) (.ret ((b++[(b8 (qj (s.length:Int)))])++s)) .fail) .fail)
def ua:=fun b s=>(sF b s).get
def rB (b:List UInt8) (s:List UInt8) (n:Int):Tree (List UInt8):=
 .opt (ua b s) fun r_1=>
 .ite (Ng (ay ((ay (n-1))-(s.length:Int)))) (.ite (decide ((r_1.length+(List.replicate (ay ((ay (n-1))-(s.length:Int))).toNat (0:UInt8)).length)≤dK)) (.ret (r_1++(List.replicate (ay ((ay (n-1))-(s.length:Int))).toNat (0:UInt8)))) .fail) .fail
def k5:=fun b s n=>(rB b s n).get
def s9 (t18:List bA) (t19:Int) (s:aG) (v_:Int×List UInt8):Tree ((Int×List UInt8) ⊕ (List UInt8)):=
 .ite (decide (v_.1<t19)) (.ite (cN v_.1 t18.length) (.opt (t18[v_.1.toNat]?) fun y_1=>
  .opt (di n_ v_.2 y_1.Seq 4) fun r_2=>
  .opt (di n_ r_2 y_1.Gw 1) fun r_3=>
  .opt (di n_ r_3 y_1.aX 1) fun r_4=>
  .opt (di n_ r_4 y_1.pY 4) fun r_5=>
  .ret (.inl ((ay (v_.1+1)),r_5))) .fail)
 (.ret (.inr v_.2))
def vo:=fun t18 t19 s v_=>(s9 n_ t18 t19 s v_).get
def vq:=fun t18 t19 s t20 b=>iter (vo n_ t18 t19 s) n_ (t20,b)
def s8 (t39:List bL) (t40:Int) (o0:aG) (v_:Int×List UInt8):Tree ((Int×List UInt8) ⊕ (List UInt8)):=
 .ite (decide (v_.1<t40)) (.ite (cN v_.1 t39.length) (.opt (t39[v_.1.toNat]?) fun y_1=>
  .opt (k5 v_.2 y_1.Name 9) fun r_2=>
  .opt (di n_ r_2 y_1.pY 4) fun r_3=>
  .opt (k5 r_3 y_1.Body 25) fun r_4=>
  .ret (.inl ((ay (v_.1+1)),r_4))) .fail)
 (.ret (.inr v_.2))
def vn:=fun t39 t40 o0 v_=>(s8 n_ t39 t40 o0 v_).get
def vp:=fun t39 t40 o0 t41 b=>iter (vn n_ t39 t40 o0) n_ (t41,b)
def xR (s:aG):Tree (List (List UInt8)):=
 .opt (yB n_ s) fun r_1=>
 .ite (!r_1) (.ret ([]))
 (.opt (di n_ [] s.aS 4) fun r_2=>
 .opt (vq n_ s.Marks (s.Marks.length:Int) s 0 r_2) fun r_3=>
 .opt (vp n_ s.aP (s.aP.length:Int) s 0 r_3) fun r_4=>
 .ite (decide (((r_4.length:Int).tmod 32)>0)) (.ite (Ng (ay (32-((r_4.length:Int).tmod 32)))) (.ite (decide ((r_4.length+(List.replicate (ay (32-((r_4.length:Int).tmod 32))).toNat (0:UInt8)).length)≤dK)) (.ret (ia (r_4++(List.replicate (ay (32-((r_4.length:Int).tmod 32))).toNat (0:UInt8))))) .fail) .fail)
 (.ret (ia r_4)))
def oI:=fun s=>(xR n_ s).get
def A4:Tree Int:=
 .opt GX fun r_1=>
 .opt (oI n_ r_1) fun r_2=>
 .ret (r_2.length:Int)
def qN:=(A4 n_).get
def A0:Tree Int:=
 .opt (qN n_) fun r_1=>
 .ret (ay ((ay (2*r_1))+1))
def zE:=(A0 n_).get
def fP (x:Int) (y:Int):Int×Int:=((uf ((uf ((uf ((qX .u64 x 32)*(qX .u64 y 32)))+(qX .u64 (uf ((uf ((qX .u64 x 32)*(Gh .u64 y 4294967295)))+(qX .u64 (uf ((Gh .u64 x 4294967295)*(Gh .u64 y 4294967295))) 32))) 32)))+(qX .u64 (uf ((Gh .u64 (uf ((uf ((qX .u64 x 32)*(Gh .u64 y 4294967295)))+(qX .u64 (uf ((Gh .u64 x 4294967295)*(Gh .u64 y 4294967295))) 32))) 4294967295)+(uf ((Gh .u64 x 4294967295)*(qX .u64 y 32))))) 32))),(uf (x*y)))
def FN (n:Int):Tree aN:=
 .ite (decide (n<1)) (.ret (aN.mk [] [] 0 false))
 (.ite (decide (n>64)) (.ret (aN.mk [] [] 0 false))
 (.ite (EW ([0]:List UInt8) 32) (.ite (Ij [(pI ([0]:List UInt8) 32)] n) (.ret (aN.mk (pI [(pI ([0]:List UInt8) 32)] n) [] 0 false)) .fail) .fail))
def QZ:=fun n=>(FN n).get
def OZ (d:aN):Unit:=()
def vI (d:aN) (i:Int):TT Bool:=
 .ite (!d.Down) (.ite (decide (i≥0)) (.ret (decide (i<(d.aU.length:Int))))
 (.ret false))
 (.ret false)
def Ay:=fun d i=>(vI d i).val
def vJ (d:aN) (i:Int) (b:List UInt8):Tree (aN×Bool):=
 .ite (!(Ay d i)) (.ret (d,false))
 (.ite ((b.length:Int) != 32) (.ret (d,false))
 (.ite (decide ((d.bC.length+1)≤dK)) (.ite (decide (d.gR>0)) (.ret ((aN.mk d.aU (d.bC++[(bB.mk i b)]) (ay (d.gR-1)) ((ay (d.gR-1))==0)),(!((ay (d.gR-1))==0))))
 (.ret ({d with bC:=(d.bC++[(bB.mk i b)])},(!d.Down)))) .fail))
def rF:=fun d i b=>(vJ d i b).get
def kH (p:bB) (n:Int) (f:dt):Tree dt:=
 .ite (decide (p.At<0)) (.ret f)
 (.ite (decide (p.At≥(f.d.aU.length:Int))) (.ret f)
 (.ite (cN p.At f.d.aU.length) (.opt (f.d.aU[p.At.toNat]?) fun y_1=>
 .ite (kJ 0 (imax (ew (ew n (p.B.length:Int)) (y_1.length:Int)) 0) p.B.length) (.ite (cN p.At f.d.aU.length) (.opt (f.d.aU[p.At.toNat]?) fun y_2=>
  .ite (kJ (imax (ew (ew n (p.B.length:Int)) (y_1.length:Int)) 0) (y_2.length:Int) y_2.length) (.ite (decide (((eo p.B 0 (imax (ew (ew n (p.B.length:Int)) (y_1.length:Int)) 0)).length+(eo y_2 (imax (ew (ew n (p.B.length:Int)) (y_1.length:Int)) 0) (y_2.length:Int)).length)≤dK)) (.ite (cN p.At f.d.aU.length) (.opt (f.d.aU[p.At.toNat]?) fun y_3=>
    .ret (dt.mk {f.d with aU:=(f.d.aU.set p.At.toNat ((eo p.B 0 (imax (ew (ew n (p.B.length:Int)) (y_1.length:Int)) 0))++(eo y_2 (imax (ew (ew n (p.B.length:Int)) (y_1.length:Int)) 0) (y_2.length:Int))))})) .fail) .fail) .fail) .fail) .fail) .fail))
def mF:=fun p n f=>(kH p n f).get
def rG (t18:List bB) (t19:Int) (o0:aN) (v_:Int×aN×dt):Tree ((Int×aN×dt) ⊕ (aN×dt)):=
 .ite (decide (v_.1<t19)) (.ite (cN v_.1 t18.length) (.opt (t18[v_.1.toNat]?) fun y_1=>
  .opt (mF y_1 32 v_.2.2) fun r_2=>
  .ret (.inl ((ay (v_.1+1)),{v_.2.1 with aU:=[],bC:=[]},r_2))) .fail)
 (.ret (.inr ({v_.2.1 with aU:=[],bC:=[]},v_.2.2)))
def tg:=fun t18 t19 o0 v_=>(rG t18 t19 o0 v_).get
def th:=fun t18 t19 o0 t20 o1 f=>iter (tg t18 t19 o0) n_ (t20,o1,f)
def vK (d:aN):Tree (aN×Bool):=
 .ite d.Down (.ret (d,false))
 (.opt (th n_ d.bC (d.bC.length:Int) d 0 (aN.mk [] [] 0 false) (dt.mk d)) fun r_1=>
 .ret ({r_1.2.d with bC:=[]},true))
def vL:=fun d=>(vK n_ d).get
def wL (t9:List (List UInt8)) (t10:Int) (s:aG) (v_:Int×bV×aN):Tree ((Int×bV×aN) ⊕ (bV×aN)):=
 .ite (decide (v_.1<t10)) (.ite (cN v_.1 t9.length) (.opt (t9[v_.1.toNat]?) fun y_1=>
  .opt (rF v_.2.2 v_.1 y_1) fun r_2=>
  .ret (.inl ((ay (v_.1+1)),(bV.mk {v_.2.1.D with aU:=[],bC:=[]} (aG.mk [] [] v_.2.1.S.aS)),r_2.1))) .fail)
 (.ret (.inr ((bV.mk {v_.2.1.D with aU:=[],bC:=[]} (aG.mk [] [] v_.2.1.S.aS)),v_.2.2)))
def Gy:=fun t9 t10 s v_=>(wL t9 t10 s v_).get
def Gz:=fun t9 t10 s t11 o0 d=>iter (Gy t9 t10 s) n_ (t11,o0,d)
def A5:Tree bV:=
 .opt GX fun r_1=>
 .opt (zE n_) fun r_2=>
 .opt (QZ r_2) fun r_3=>
 .opt (oI n_ r_1) fun r_4=>
 .opt (Gz n_ r_4 (r_4.length:Int) r_1 0 (bV.mk (aN.mk [] [] 0 false) (aG.mk [] [] 0)) r_3) fun r_5=>
 .opt (vL n_ r_5.2) fun r_6=>
 .ret (bV.mk r_6.1 r_1)
def LH:=(A5 n_).get
def ov (t13:List bA) (t14:Int) (st:bV) (v_:Int×aI×aI):Tree ((Int×aI×aI) ⊕ (aI×aI)):=
 .ite (decide (v_.1<t14)) (.ite (cN v_.1 t13.length) (.opt (t13[v_.1.toNat]?) fun y_1=>
  .ite (decide ((v_.2.2.Seen.length+1)≤dK)) (.ret (.inl ((ay (v_.1+1)),{v_.2.1 with aA:=(bV.mk {v_.2.1.aA.D with aU:=[],bC:=[]} (aG.mk [] [] v_.2.1.aA.S.aS)),bd:=(b9.mk [] []),Seen:=[],Told:=[]},{v_.2.2 with bd:=(b9.mk [] []),Seen:=(v_.2.2.Seen++[y_1.Seq]),Told:=[]}))) .fail) .fail)
 (.ret (.inr ({v_.2.1 with aA:=(bV.mk {v_.2.1.aA.D with aU:=[],bC:=[]} (aG.mk [] [] v_.2.1.aA.S.aS)),bd:=(b9.mk [] []),Seen:=[],Told:=[]},{v_.2.2 with bd:=(b9.mk [] []),Told:=[]})))
def pH:=fun t13 t14 st v_=>(ov t13 t14 st v_).get
def wk:=fun t13 t14 st t15 o1 s=>iter (pH t13 t14 st) n_ (t15,o1,s)
def qY (st:bV) (now:Int):Tree aI:=
 .opt (wk n_ st.S.Marks (st.S.Marks.length:Int) st 0 (aI.mk (bV.mk (aN.mk [] [] 0 false) (aG.mk [] [] 0)) (b9.mk [] []) [] [] 0 0 0 false 0) (aI.mk st (b9.mk [] []) [] [] now 0 0 true 0)) fun r_1=>
 .ite (Y4 (st.S.Marks.length:Int) (st.S.Marks.length:Int)) (.ret ({r_1.2 with bd:=(b9.mk [] []),Told:=(List.replicate (st.S.Marks.length:Int).toNat (ck.mk 0 0 0 0 0 0 0 0 []))})) .fail
def qm:=fun st now=>(qY n_ st now).get
def w7 (now:Int):Tree aI:=
 .opt (LH n_) fun r_1=>
 .opt (qm n_ r_1 now) fun r_2=>
 .ret r_2
def uC:=fun now=>(w7 n_ now).get
def xg (n:Int) (least:Int):TT Bool:=
 .ite (decide (n≥least)) (.ret (decide (n≤1073741824)))
 (.ret false)
def yG:=fun n least=>(xg n least).val
def kQ (s:List UInt8) (v_:Int):Tree (Int ⊕ (Unit ⊕ Unit)):=
 .ite (decide (v_<(s.length:Int))) (.ite (cN v_ s.length) (.opt (s[v_.toNat]?) fun y_1=>
  .ite (decide ((i8 y_1)<33)) (.ret (.inr (.inl ())))
  (.ite (cN v_ s.length) (.opt (s[v_.toNat]?) fun y_2=>
  .ite (decide ((i8 y_2)>126)) (.ret (.inr (.inl ())))
  (.ret (.inl (ay (v_+1))))) .fail)) .fail)
 (.ret (.inr (.inr ())))
def pL:=fun s v_=>(kQ s v_).get
def pM:=fun s i=>iter (pL s) n_ i
def ra (s:List UInt8):Tree Bool:=
 .opt (pM n_ s 0) fun r_1=>
 bf r_1 (fun a_2=>
 .ret false) fun b_3=>
 .ite (decide ((s.length:Int)≥1)) (.ret (decide ((s.length:Int)≤8)))
 (.ret false)
def uG:=fun s=>(ra n_ s).get
def ir (a:List aY) (b:List aY) (v_:Int):Tree (Int ⊕ (Unit ⊕ Unit)):=
 .ite (decide (v_<(a.length:Int))) (.ite (cN v_ a.length) (.opt (a[v_.toNat]?) fun y_1=>
  .ite (cN v_ b.length) (.opt (b[v_.toNat]?) fun y_2=>
  .ite (!(aY.er y_1 y_2)) (.ret (.inr (.inl ())))
  (.ret (.inl (ay (v_+1))))) .fail) .fail)
 (.ret (.inr (.inr ())))
def mq:=fun a b v_=>(ir a b v_).get
def mr:=fun a b i=>iter (mq a b) n_ i
def nq (a:List aY) (b:List aY):Tree Bool:=
 .ite ((a.length:Int) != (b.length:Int)) (.ret false)
 (.opt (mr n_ a b 0) fun r_1=>
 bf r_1 (fun a_2=>
 .ret false) fun b_3=>
 .ret true)
def pJ:=fun a b=>(nq n_ a b).get
def pN (a:bp) (b:bp):Tree Bool:=
 .ite (a.Kind==b.Kind) (.ite (a.bn==b.bn) (.ite (a.aS==b.aS) (.ite (a.Seq==b.Seq) (.ite (a.Name==b.Name) (.ite (a.aX==b.aX) (.ite (a.Mode==b.Mode) (.opt (pJ n_ a.aQ b.aQ) fun r_1=>
    .ret r_1)
    (.ret false))
   (.ret false))
   (.ret false))
  (.ret false))
  (.ret false))
 (.ret false))
 (.ret false)
def ct:=fun a b=>(pN n_ a b).get
def pK (w:aY):TT Bool:=
 .ite (decide (w.nS≥0)) (.ite (decide (w.nS<24)) (.ite (decide ((w.B.length:Int)≥1)) (.ret (decide ((w.B.length:Int)≤(ay (24-w.nS)))))
  (.ret false))
 (.ret false))
 (.ret false)
def sQ:=fun w=>(pK w).val
def kS (a:bp) (x:bp) (v_:Bool×Int):Tree ((Bool×Int) ⊕ Bool):=
 .ite (decide (v_.2<(a.aQ.length:Int))) (.ite v_.1 (.ite (cN v_.2 a.aQ.length) (.opt (a.aQ[v_.2.toNat]?) fun y_1=>
  .ret (.inl ((sQ y_1),(ay (v_.2+1))))) .fail)
 (.ret (.inl (false,(ay (v_.2+1))))))
 (.ret (.inr v_.1))
def pO:=fun a x v_=>(kS a x v_).get
def cO:=fun a x ok i=>iter (pO a x) n_ (ok,i)
def rf (a:bp):Tree Bool:=
 .ite (decide (a.Kind<1)) (.ret false)
 (.ite (decide (a.Kind>5)) (.ret false)
 (.ite (decide (a.bn<1)) (.ret false)
 (.ite (decide (a.bn>3)) (.ret false)
 (.ite (!(yG a.aS 0)) (.ret false)
 (.ite (!(yG a.Seq 1)) (.ret false)
 (.ite (a.Kind==1) (.opt (uG n_ a.Name) fun r_1=>
 .ite r_1 (.opt (ct n_ {a with aX:=0,Mode:=0,aQ:=[]} a) fun r_2=>
  .ret r_2)
 (.ret false))
 (.ite (decide (a.aX≥1)) (.ite (a.Kind==2) (.ite (decide (a.aX≤6)) (.ite (a.Mode==1) (.opt (ct n_ {a with Name:=[],aQ:=[]} a) fun r_3=>
   .ret r_3)
  (.ite (a.Mode==2) (.opt (ct n_ {a with Name:=[],aQ:=[]} a) fun r_4=>
   .ret r_4)
  (.ret false)))
  (.ret false))
 (.ite (a.Kind==3) (.ite (decide (a.aX≤6)) (.ite (decide ((a.aQ.length:Int)≤5)) (.ite (decide ((a.aQ.length:Int)>0)) (.opt (cO n_ a {a with Name:=[],Mode:=0} true 0) fun r_5=>
   .ite r_5 (.opt (ct n_ {a with Name:=[],Mode:=0} a) fun r_6=>
    .ret r_6)
   (.ret false))
   (.opt (cO n_ a {a with Name:=[],Mode:=0} (a.Kind==4) 0) fun r_7=>
   .ite r_7 (.opt (ct n_ {a with Name:=[],Mode:=0} a) fun r_8=>
   .ret r_8)
   (.ret false)))
  (.opt (cO n_ a {a with Name:=[],Mode:=0} false 0) fun r_9=>
  .ite r_9 (.opt (ct n_ {a with Name:=[],Mode:=0} a) fun r_10=>
   .ret r_10)
  (.ret false)))
  (.opt (cO n_ a {a with Name:=[],Mode:=0} false 0) fun r_11=>
  .ite r_11 (.opt (ct n_ {a with Name:=[],Mode:=0} a) fun r_12=>
  .ret r_12)
  (.ret false)))
 (.ite (a.Kind==4) (.ite (decide (a.aX≤6)) (.ite (decide ((a.aQ.length:Int)≤5)) (.ite (decide ((a.aQ.length:Int)>0)) (.opt (cO n_ a {a with Name:=[],Mode:=0} true 0) fun r_13=>
   .ite r_13 (.opt (ct n_ {a with Name:=[],Mode:=0} a) fun r_14=>
    .ret r_14)
   (.ret false))
   (.opt (cO n_ a {a with Name:=[],Mode:=0} (a.Kind==4) 0) fun r_15=>
   .ite r_15 (.opt (ct n_ {a with Name:=[],Mode:=0} a) fun r_16=>
   .ret r_16)
   (.ret false)))
  (.opt (cO n_ a {a with Name:=[],Mode:=0} false 0) fun r_17=>
  .ite r_17 (.opt (ct n_ {a with Name:=[],Mode:=0} a) fun r_18=>
   .ret r_18)
  (.ret false)))
  (.opt (cO n_ a {a with Name:=[],Mode:=0} false 0) fun r_19=>
  .ite r_19 (.opt (ct n_ {a with Name:=[],Mode:=0} a) fun r_20=>
  .ret r_20)
  (.ret false)))
 (.ite (decide (a.aX≤6)) (.opt (ct n_ {a with Name:=[],Mode:=0,aQ:=[]} a) fun r_21=>
  .ret r_21)
 (.ret false)))))
 (.ite (a.Kind==2) (.ret false)
 (.ite (a.Kind==3) (.opt (cO n_ a {a with Name:=[],Mode:=0} false 0) fun r_22=>
 .ite r_22 (.opt (ct n_ {a with Name:=[],Mode:=0} a) fun r_23=>
  .ret r_23)
 (.ret false))
 (.ite (a.Kind==4) (.opt (cO n_ a {a with Name:=[],Mode:=0} false 0) fun r_24=>
 .ite r_24 (.opt (ct n_ {a with Name:=[],Mode:=0} a) fun r_25=>
  .ret r_25)
 (.ret false))
 (.ret false)))))))))))
def uM:=fun a=>(rf n_ a).get
def Bk (v:Int) (v_:Int×List UInt8):Tree ((Int×List UInt8) ⊕ (List UInt8)):=
 .ite (decide (v_.1≥0)) (.ite (decide ((ay (8*v_.1))<0)) .fail
 (.ite (decide ((v_.2.length+1)≤dK)) (.ret (.inl ((ay (v_.1-1)),(v_.2++[(b8 (qj (qX .i64 v (ay (8*v_.1)))))])))) .fail))
 (.ret (.inr v_.2))
def JL:=fun v v_=>(Bk v v_).get
def JM:=fun v i out=>iter (JL v) n_ (i,out)
def zO (b:List UInt8) (v:Int) (n:Int):Tree (List UInt8):=
 .ite (decide (b.length≤dK)) (.ite (decide (n<1)) (.ret b)
 (.ite (decide (n>8)) (.ret b)
 (.opt (JM n_ v (ay (n-1)) b) fun r_1=>
 .ret r_1))) .fail
def gJ:=fun b v n=>(zO n_ b v n).get
def xa (b:List UInt8) (s:List UInt8):Tree (List UInt8):=
 .ite (decide (b.length≤dK)) (.ite (decide ((s.length:Int)>255)) (.ret b)
 (.ite (decide ((b.length+1)≤dK)) (.ite (decide (((b++[(b8 (qj (s.length:Int)))]).length+s.length)≤dK)) (.ret ((b++[(b8 (qj (s.length:Int)))])++s)) .fail) .fail)) .fail
def yF:=fun b s=>(xa b s).get
def uK (b:List UInt8) (i:Int) (v_:Int×Int):Tree ((Int×Int) ⊕ Int):=
 .ite (decide (v_.2<8)) (.ite ((v_.1.tmod 2)==1) (.ret (.inl ((GP .i64 (ay (v_.1.tdiv 2)) 40961),(ay (v_.2+1)))))
 (.ret (.inl ((ay (v_.1.tdiv 2)),(ay (v_.2+1))))))
 (.ret (.inr v_.1))
def sg:=fun b i v_=>(uK b i v_).get
def xf:=fun b i c k=>iter (sg b i) n_ (c,k)
def qn (b:List UInt8) (v_:Int×Int):Tree ((Int×Int) ⊕ Int):=
 .ite (decide (v_.2<(b.length:Int))) (.ite (cN v_.2 b.length) (.opt (b[v_.2.toNat]?) fun y_1=>
  .opt (xf n_ b v_.2 (GP .i64 v_.1 (ay (i8 y_1))) 0) fun r_2=>
  .ret (.inl (r_2,(ay (v_.2+1))))) .fail)
 (.ret (.inr v_.1))
def sf:=fun b v_=>(qn n_ b v_).get
def xe:=fun b c i=>iter (sf n_ b) n_ (c,i)
def zP (b:List UInt8):Tree Int:=
 .opt (xe n_ b 0 0) fun r_1=>
 .ret (NS r_1)
def EY:=fun b=>(zP n_ b).get
def rb (b:List UInt8):Tree (List UInt8):=
 .opt (EY n_ b) fun r_1=>
 .opt (gJ n_ b (ay r_1) 2) fun r_2=>
 .ret r_2
def uL:=fun b=>(rb n_ b).get
def kR (a:bp) (v_:List UInt8×Int):Tree ((List UInt8×Int) ⊕ (List UInt8)):=
 .ite (decide (v_.2<(a.aQ.length:Int))) (.ite (cN v_.2 a.aQ.length) (.opt (a.aQ[v_.2.toNat]?) fun y_1=>
  .opt (gJ n_ v_.1 y_1.nS 1) fun r_2=>
  .ite (cN v_.2 a.aQ.length) (.opt (a.aQ[v_.2.toNat]?) fun y_3=>
  .opt (yF r_2 y_3.B) fun r_4=>
  .ret (.inl (r_4,(ay (v_.2+1))))) .fail) .fail)
 (.ret (.inr v_.1))
def l9:=fun a v_=>(kR n_ a v_).get
def wm:=fun a b i=>iter (l9 n_ a) n_ (b,i)
def re (a:bp):Tree (List UInt8):=
 .opt (uM n_ a) fun r_1=>
 .ite (!r_1) (.ret ([]))
 (.opt (gJ n_ [] a.Kind 1) fun r_2=>
 .opt (gJ n_ r_2 a.bn 1) fun r_3=>
 .opt (gJ n_ r_3 a.aS 4) fun r_4=>
 .opt (gJ n_ r_4 a.Seq 4) fun r_5=>
 .opt (yF r_5 a.Name) fun r_6=>
 .opt (gJ n_ r_6 a.aX 1) fun r_7=>
 .opt (gJ n_ r_7 a.Mode 1) fun r_8=>
 .opt (gJ n_ r_8 (a.aQ.length:Int) 1) fun r_9=>
 .opt (wm n_ a r_9 0) fun r_10=>
 .opt (uL n_ r_10) fun r_11=>
 .ret r_11)
def a8:=fun a=>(re n_ a).get
def gz (s:aI):ax:=(ax.mk s [])
def v7 (b:List UInt8) (n:Int):Tree ((List UInt8) ⊕ Unit):=
 .ite (decide ((b.length:Int)<n)) (.ret (.inr ()))
 (.ite (kJ 0 n b.length) (.ret (.inl (eo b 0 n))) .fail)
def v8:=fun b n=>(v7 b n).get
def oY (t16:List UInt8) (t17:Int) (ok:Bool) (v_:Int×Int):Tree ((Int×Int) ⊕ Int):=
 .ite (decide (v_.2<t17)) (.ite (cN v_.2 t16.length) (.opt (t16[v_.2.toNat]?) fun y_1=>
  .ret (.inl ((bor .i64 (PT .i64 v_.1 8) (ay (i8 y_1))),(ay (v_.2+1))))) .fail)
 (.ret (.inr v_.1))
def qx:=fun t16 t17 ok v_=>(oY t16 t17 ok v_).get
def B6:=fun t16 t17 ok v t18=>iter (qx t16 t17 ok) n_ (v,t18)
def yl (b:List UInt8) (n:Int):Tree (Int×Bool):=
 .ite (decide (n<1)) (.ret (0,false))
 (.ite (decide (n>7)) (.ret (0,false))
 (.opt (v8 b n) fun r_1=>
 bf r_1 (fun a_2=>
 .opt (B6 n_ a_2 (a_2.length:Int) false 0 0) fun r_3=>
 .ret (r_3,true)) fun b_4=>
 .ret (0,false)))
def ub:=fun b n=>(yl n_ b n).get
def ox (n:Int) (r:cn):Tree ((Int×cn) ⊕ Unit):=
 .opt (ub n_ r.b n) fun r_1=>
 .ite (!r_1.2) (.ret (.inr ()))
 (.ite (kJ n (r.b.length:Int) r.b.length) (.ret (.inl (r_1.1,(cn.mk (eo r.b n (r.b.length:Int)))))) .fail)
def dg:=fun n r=>(ox n_ n r).get
def pX (b:List UInt8):Tree (List UInt8×Int×Bool):=
 .opt (v8 b 1) fun r_1=>
 bf r_1 (fun a_2=>
 .ite (cN 0 a_2.length) (.opt (a_2[0]?) fun y_3=>
  .ite (decide ((b.length:Int)<(ay ((ay (i8 y_3))+1)))) (.ret ([],0,false))
  (.ite (kJ 1 (ay ((ay (i8 y_3))+1)) b.length) (.ret ((eo b 1 (ay ((ay (i8 y_3))+1))),(ay ((ay (i8 y_3))+1)),true)) .fail)) .fail) fun b_4=>
 .ret ([],0,false)
def oZ:=fun b=>(pX b).get
def nw (r:cn):Tree ((List UInt8×cn) ⊕ Unit):=
 .opt (oZ r.b) fun r_1=>
 .ite (!r_1.2.2) (.ret (.inr ()))
 (.ite (kJ r_1.2.1 (r.b.length:Int) r.b.length) (.ret (.inl (r_1.1,(cn.mk (eo r.b r_1.2.1 (r.b.length:Int)))))) .fail)
def ma:=fun r=>(nw r).get
def jb (v_:Int×cn×bp):Tree ((Int×cn×bp) ⊕ ((cn×bp) ⊕ ((cn×bp×aY) ⊕ (cn×bp)))):=
 .ite (decide (v_.1>0)) (.opt (dg n_ 1 v_.2.1) fun r_1=>
 bf r_1 (fun a_2=>
  .opt (ma a_2.2) fun r_3=>
  bf r_3 (fun a_4=>
  .ite (decide ((v_.2.2.aQ.length+1)≤dK)) (.ret (.inl ((ay (v_.1-1)),a_4.2,{v_.2.2 with aQ:=(v_.2.2.aQ++[(aY.mk a_2.1 a_4.1)])}))) .fail) fun b_5=>
  .ret (.inr (.inr (.inl (a_2.2,v_.2.2,(aY.mk a_2.1 [])))))) fun b_6=>
 .ret (.inr (.inl (v_.2.1,v_.2.2))))
 (.ret (.inr (.inr (.inr (v_.2.1,v_.2.2)))))
def jV:=fun v_=>(jb n_ v_).get
def sl:=fun n r a=>iter (jV n_) n_ (n,r,a)
def oy (r:cn):Tree ((bp×cn) ⊕ cn):=
 .opt (dg n_ 1 r) fun r_1=>
 bf r_1 (fun a_2=>
 .opt (dg n_ 1 a_2.2) fun r_3=>
 bf r_3 (fun a_4=>
  .opt (dg n_ 4 a_4.2) fun r_5=>
  bf r_5 (fun a_6=>
  .opt (dg n_ 4 a_6.2) fun r_7=>
  bf r_7 (fun a_8=>
   .opt (ma a_8.2) fun r_9=>
   bf r_9 (fun a_10=>
   .opt (dg n_ 1 a_10.2) fun r_11=>
   bf r_11 (fun a_12=>
    .opt (dg n_ 1 a_12.2) fun r_13=>
    bf r_13 (fun a_14=>
    .opt (dg n_ 1 a_14.2) fun r_15=>
    bf r_15 (fun a_16=>
     .opt (sl n_ a_16.1 a_16.2 (bp.mk a_2.1 a_4.1 a_6.1 a_8.1 a_10.1 a_12.1 a_14.1 [])) fun r_17=>
     bf r_17 (fun a_18=>
     .ret (.inr a_18.1)) fun b_19=>
     bf b_19 (fun a_20=>
     .ret (.inr a_20.1)) fun b_21=>
     .ret (.inl (b_21.2,b_21.1))) fun b_22=>
    .ret (.inr a_14.2)) fun b_23=>
    .ret (.inr a_12.2)) fun b_24=>
   .ret (.inr a_10.2)) fun b_25=>
   .ret (.inr a_8.2)) fun b_26=>
  .ret (.inr a_6.2)) fun b_27=>
  .ret (.inr a_4.2)) fun b_28=>
 .ret (.inr a_2.2)) fun b_29=>
 .ret (.inr r)
def rk:=fun r=>(oy n_ r).get
def zZ (lo:Int) (hi:Int) (v:Int):TT Bool:=
 .ite (decide (lo≤v)) (.ret (decide (v≤hi)))
 (.ret false)
def gb:=fun lo hi v=>(zZ lo hi v).val
def vD (w:aY):TT Bool:=
 .ite (decide (w.nS≥0)) (.ite (decide ((w.B.length:Int)≥1)) (.ite (decide ((w.B.length:Int)≤24)) (.ret (decide (w.nS≤(ay (24-(w.B.length:Int))))))
  (.ret false))
 (.ret false))
 (.ret false)
def bQ:=fun w=>(vD w).val
def uS (w:aY):Bool:=(!(bQ w))
def eD (s:List aY) (t7:Int) (v_:Int):Tree (Int ⊕ (Int ⊕ Unit)):=
 .ite (decide (v_<t7)) (.ite (cN v_ s.length) (.opt (s[v_.toNat]?) fun y_1=>
  .ite (uS y_1) (.ret (.inr (.inl v_)))
  (.ret (.inl (ay (v_+1))))) .fail)
 (.ret (.inr (.inr ())))
def dO:=fun s t7 v_=>(eD s t7 v_).get
def lj:=fun s t7 t8=>iter (dO s t7) n_ t8
def gT (s:List aY):Tree Int:=
 .opt (lj n_ s (s.length:Int) 0) fun r_1=>
 bf r_1 (fun a_2=>
 .ret a_2) fun b_3=>
 .ret (-1)
def m9:=fun s=>(gT n_ s).get
def fK (s:List aY):Tree Bool:=
 .opt (m9 n_ s) fun r_1=>
 .ret (decide (r_1≥0))
def c9:=fun s=>(fK n_ s).get
def xq (a:bp):Tree (bp×Bool):=
 .ite (a.Kind==1) (.opt (yO n_ a.Name) fun r_1=>
 .ret ({a with aX:=0,Mode:=0,aQ:=[]},r_1))
 (.ite (a.Kind==2) (.ite (gb 1 6 a.aX) (.ret ({a with Name:=[],aQ:=[]},(gb 1 2 a.Mode)))
 (.ret ({a with Name:=[],aQ:=[]},false)))
 (.ite (a.Kind==3) (.ite (decide ((a.aQ.length:Int)≤5)) (.ite (decide ((a.aQ.length:Int)>0)) (.ite (gb 1 6 a.aX) (.opt (c9 n_ a.aQ) fun r_2=>
   .ret ({a with Name:=[],Mode:=0},(!r_2)))
  (.ret ({a with Name:=[],Mode:=0},false)))
  (.ite (gb 1 6 a.aX) (.ite (a.Kind==4) (.opt (c9 n_ a.aQ) fun r_3=>
   .ret ({a with Name:=[],Mode:=0},(!r_3)))
  (.ret ({a with Name:=[],Mode:=0},false)))
  (.ret ({a with Name:=[],Mode:=0},false))))
 (.ite (gb 1 6 a.aX) (.ret ({a with Name:=[],Mode:=0},false))
 (.ret ({a with Name:=[],Mode:=0},false))))
 (.ite (a.Kind==4) (.ite (decide ((a.aQ.length:Int)≤5)) (.ite (decide ((a.aQ.length:Int)>0)) (.ite (gb 1 6 a.aX) (.opt (c9 n_ a.aQ) fun r_4=>
   .ret ({a with Name:=[],Mode:=0},(!r_4)))
  (.ret ({a with Name:=[],Mode:=0},false)))
  (.ite (gb 1 6 a.aX) (.ite (a.Kind==4) (.opt (c9 n_ a.aQ) fun r_5=>
   .ret ({a with Name:=[],Mode:=0},(!r_5)))
  (.ret ({a with Name:=[],Mode:=0},false)))
  (.ret ({a with Name:=[],Mode:=0},false))))
 (.ite (gb 1 6 a.aX) (.ret ({a with Name:=[],Mode:=0},false))
 (.ret ({a with Name:=[],Mode:=0},false))))
 (.ret ({a with Name:=[],Mode:=0,aQ:=[]},(gb 1 6 a.aX))))))
def Cz:=fun a=>(xq n_ a).get
def fI (s1:List aY) (s2:List aY) (t12:Int) (v_:Int):Tree (Int ⊕ (Unit ⊕ Unit)):=
 .ite (decide (v_<t12)) (.ite (cN v_ s1.length) (.opt (s1[v_.toNat]?) fun y_1=>
  .ite (cN v_ s2.length) (.opt (s2[v_.toNat]?) fun y_2=>
  .ite (!(aY.er y_1 y_2)) (.ret (.inr (.inl ())))
  (.ret (.inl (ay (v_+1))))) .fail) .fail)
 (.ret (.inr (.inr ())))
def jz:=fun s1 s2 t12 v_=>(fI s1 s2 t12 v_).get
def jA:=fun s1 s2 t12 t13=>iter (jz s1 s2 t12) n_ t13
def kf (s1:List aY) (s2:List aY):Tree Bool:=
 .ite ((s1.length:Int) != (s2.length:Int)) (.ret false)
 (.opt (jA n_ s1 s2 (s1.length:Int) 0) fun r_1=>
 bf r_1 (fun a_2=>
 .ret false) fun b_3=>
 .ret true)
def mj:=fun s1 s2=>(kf n_ s1 s2).get
def sS (a:bp) (b:bp):Tree Bool:=
 .ite (a.Kind==b.Kind) (.ite (a.bn==b.bn) (.ite (a.aS==b.aS) (.ite (a.Seq==b.Seq) (.ite (a.Name==b.Name) (.ite (a.aX==b.aX) (.ite (a.Mode==b.Mode) (.opt (mj n_ a.aQ b.aQ) fun r_1=>
    .ret r_1)
    (.ret false))
   (.ret false))
   (.ret false))
  (.ret false))
  (.ret false))
 (.ret false))
 (.ret false)
def xu:=fun a b=>(sS n_ a b).get
def uV (a:bp):Tree Bool:=
 .ite (!(gb 1 5 a.Kind)) (.ret false)
 (.ite (!(gb 1 3 a.bn)) (.ret false)
 (.ite (!(gb 0 1073741824 a.aS)) (.ret false)
 (.ite (!(gb 1 1073741824 a.Seq)) (.ret false)
 (.opt (Cz n_ a) fun r_1=>
 .ite r_1.2 (.opt (xu n_ a r_1.1) fun r_2=>
 .ret r_2)
 (.ret false)))))
def z7:=fun a=>(uV n_ a).get
def yf (t6:List UInt8) (t7:Int) (t8:Int) (v_:Int×Int):Tree ((Int×Int) ⊕ Int):=
 .ite (decide (v_.2<8)) (.ite ((Gh .u16 v_.1 1)==1) (.ret (.inl ((GP .u16 (qX .u16 v_.1 1) 40961),(ay (v_.2+1)))))
 (.ret (.inl ((qX .u16 v_.1 1),(ay (v_.2+1))))))
 (.ret (.inr v_.1))
def vR:=fun t6 t7 t8 v_=>(yf t6 t7 t8 v_).get
def AJ:=fun t6 t7 t8 c t16=>iter (vR t6 t7 t8) n_ (c,t16)
def sE (t6:List UInt8) (t7:Int) (v_:Int×Int):Tree ((Int×Int) ⊕ Int):=
 .ite (decide (v_.2<t7)) (.ite (cN v_.2 t6.length) (.opt (t6[v_.2.toNat]?) fun y_1=>
  .opt (AJ n_ t6 t7 v_.2 (GP .u16 v_.1 (NS (i8 y_1))) 0) fun r_2=>
  .ret (.inl (r_2,(ay (v_.2+1))))) .fail)
 (.ret (.inr v_.1))
def vQ:=fun t6 t7 v_=>(sE n_ t6 t7 v_).get
def AI:=fun t6 t7 c t8=>iter (vQ n_ t6 t7) n_ (c,t8)
def C4 (b:List UInt8):Tree Int:=
 .opt (AI n_ b (b.length:Int) 0 0) fun r_1=>
 .ret r_1
def Ja:=fun b=>(C4 n_ b).get
def uT (b:List UInt8):Tree (List UInt8):=
 .opt (Ja n_ b) fun r_1=>
 .opt (di n_ b (ay r_1) 2) fun r_2=>
 .ret r_2
def zY:=fun b=>(uT n_ b).get
def ny (t37:List aY) (t38:Int) (o0:bp) (v_:List UInt8×Int):Tree ((List UInt8×Int) ⊕ (List UInt8)):=
 .ite (decide (v_.2<t38)) (.ite (cN v_.2 t37.length) (.opt (t37[v_.2.toNat]?) fun y_1=>
  .opt (di n_ v_.1 y_1.nS 1) fun r_2=>
  .opt (ua r_2 y_1.B) fun r_3=>
  .ret (.inl (r_3,(ay (v_.2+1))))) .fail)
 (.ret (.inr v_.1))
def oT:=fun t37 t38 o0 v_=>(ny n_ t37 t38 o0 v_).get
def zi:=fun t37 t38 o0 b t39=>iter (oT n_ t37 t38 o0) n_ (b,t39)
def uU (a:bp):Tree (List UInt8):=
 .opt (z7 n_ a) fun r_1=>
 .ite (!r_1) (.ret ([]))
 (.opt (di n_ [] a.Kind 1) fun r_2=>
 .opt (di n_ r_2 a.bn 1) fun r_3=>
 .opt (di n_ r_3 a.aS 4) fun r_4=>
 .opt (di n_ r_4 a.Seq 4) fun r_5=>
 .opt (ua r_5 a.Name) fun r_6=>
 .opt (di n_ r_6 a.aX 1) fun r_7=>
 .opt (di n_ r_7 a.Mode 1) fun r_8=>
 .opt (di n_ r_8 (a.aQ.length:Int) 1) fun r_9=>
 .opt (zi n_ a.aQ (a.aQ.length:Int) a r_9 0) fun r_10=>
 .opt (zY n_ r_10) fun r_11=>
 .ret r_11)
def z6:=fun a=>(uU n_ a).get
def gj (s1:List UInt8) (s2:List UInt8) (t12:Int) (v_:Int):Tree (Int ⊕ (Unit ⊕ Unit)):=
 .ite (decide (v_<t12)) (.ite (cN v_ s1.length) (.opt (s1[v_.toNat]?) fun y_1=>
  .ite (cN v_ s2.length) (.opt (s2[v_.toNat]?) fun y_2=>
  .ite ((i8 y_1) != (i8 y_2)) (.ret (.inr (.inl ())))
  (.ret (.inl (ay (v_+1))))) .fail) .fail)
 (.ret (.inr (.inr ())))
def kd:=fun s1 s2 t12 v_=>(gj s1 s2 t12 v_).get
def ke:=fun s1 s2 t12 t13=>iter (kd s1 s2 t12) n_ t13
def lB (s1:List UInt8) (s2:List UInt8):Tree Bool:=
 .ite ((s1.length:Int) != (s2.length:Int)) (.ret false)
 (.opt (ke n_ s1 s2 (s1.length:Int) 0) fun r_1=>
 bf r_1 (fun a_2=>
 .ret false) fun b_3=>
 .ret true)
def nb:=fun s1 s2=>(lB n_ s1 s2).get
def pQ (b:List UInt8):Tree (bp×Bool):=
 .opt (rk n_ (cn.mk b)) fun r_1=>
 bf r_1 (fun a_2=>
 .ite ((b.length:Int)==0) (.ret ((bp.mk 0 0 0 0 [] 0 0 []),false))
 (.opt (z6 n_ a_2.1) fun r_3=>
 .opt (nb n_ r_3 b) fun r_4=>
 .ite (!r_4) (.ret ((bp.mk 0 0 0 0 [] 0 0 []),false))
 (.ret (a_2.1,true)))) fun b_5=>
 .ret ((bp.mk 0 0 0 0 [] 0 0 []),false)
def zh:=fun b=>(pQ n_ b).get
def sR (b:List UInt8):Tree (bp×Bool):=
 .opt (zh n_ b) fun r_1=>
 .ret (r_1.1,r_1.2)
def xr:=fun b=>(sR n_ b).get
def qq (l:List bA) (aV:Int):TT Bool:=
 .ite (decide (aV≥1)) (.ret (decide (aV≤(l.length:Int))))
 (.ret false)
def uW:=fun l aV=>(qq l aV).val
def CB (l:List bA) (aV:Int) (seq:Int):Tree (bA×Bool):=
 .ite (!(uW l aV)) (.ret ((bA.mk 0 0 0 0),false))
 (.ite (decide (seq≤0)) (.ret ((bA.mk 0 0 0 0),false))
 (.ite (cN (ay (aV-1)) l.length) (.opt (l[(ay (aV-1)).toNat]?) fun y_1=>
 .ite (y_1.Seq != seq) (.ret ((bA.mk 0 0 0 0),false))
 (.ite (cN (ay (aV-1)) l.length) (.opt (l[(ay (aV-1)).toNat]?) fun y_2=>
  .ret (y_2,true)) .fail)) .fail))
def Nj:=fun l aV seq=>(CB l aV seq).get
def uB (wu:Int) (seen:List Int) (told:List ck) (marks:List bA) (a:bp):Tree (Int×ck):=
 .ite ((seen.length:Int) != (marks.length:Int)) (.ret (2,(ck.mk 0 0 0 0 0 0 0 0 [])))
 (.ite ((told.length:Int) != (marks.length:Int)) (.ret (2,(ck.mk 0 0 0 0 0 0 0 0 [])))
 (.ite (decide (a.bn<1)) (.ret (2,(ck.mk 0 0 0 0 0 0 0 0 [])))
 (.ite (decide (a.bn>(seen.length:Int))) (.ret (2,(ck.mk 0 0 0 0 0 0 0 0 [])))
 (.ite (decide (a.Seq<1)) (.ret (2,(ck.mk 0 0 0 0 0 0 0 0 [])))
 (.ite (a.aS != wu) (.ret (1,(ck.mk 0 0 0 0 0 0 0 0 [])))
 (.ite (cN (ay (a.bn-1)) seen.length) (.opt (seen[(ay (a.bn-1)).toNat]?) fun y_1=>
 .ite (decide (a.Seq<y_1)) (.ret (2,(ck.mk 0 0 0 0 0 0 0 0 [])))
 (.ite (cN (ay (a.bn-1)) told.length) (.opt (told[(ay (a.bn-1)).toNat]?) fun y_2=>
  .ite (y_2.Seq==a.Seq) (.ite (cN (ay (a.bn-1)) told.length) (.opt (told[(ay (a.bn-1)).toNat]?) fun y_3=>
   .ret (3,y_3)) .fail)
  (.opt (Nj marks a.bn a.Seq) fun r_4=>
  .ite r_4.2 (.ret (3,(ck.mk 1 a.bn wu a.Seq r_4.1.Gw r_4.1.aX 0 r_4.1.pY [])))
  (.ret (4,(ck.mk 0 0 0 0 0 0 0 0 []))))) .fail)) .fail))))))
def zL:=fun wu seen told marks a=>(uB wu seen told marks a).get
def dE (aV:Int) (t:ck) (h:ax):Tree ax:=
 .ite (decide (aV≥1)) (.ite (decide (aV≤(h.Server.Told.length:Int))) (.ite (cN (ay (aV-1)) h.Server.Told.length) (.opt (h.Server.Told[(ay (aV-1)).toNat]?) fun y_1=>
  .ite (decide (y_1.Seq≤t.Seq)) (.ite (cN (ay (aV-1)) h.Server.Told.length) (.opt (h.Server.Told[(ay (aV-1)).toNat]?) fun y_2=>
   .ret (ax.mk {h.Server with Told:=(h.Server.Told.set (ay (aV-1)).toNat {t with Kind:=1,To:=aV,aS:=h.Server.aA.S.aS})} [{t with Kind:=1,To:=aV,aS:=h.Server.aA.S.aS}])) .fail)
  (.ret ({h with told:=[{t with Kind:=1,To:=aV,aS:=h.Server.aA.S.aS}]}))) .fail)
 (.ret ({h with told:=[{t with Kind:=1,To:=aV,aS:=h.Server.aA.S.aS}]})))
 (.ret ({h with told:=[{t with Kind:=1,To:=aV,aS:=h.Server.aA.S.aS}]}))
def iG:=fun aV t h=>(dE aV t h).get
def ed (a:bp) (t:ck) (h:ax):Tree ax:=
 .opt (iG a.bn {t with Seq:=a.Seq} {h with told:=[]}) fun r_1=>
 .ret r_1
def dq:=fun a t h=>(ed a t h).get
def ER (s:aG):Unit:=()
def l4 (f:bL) (o0:List UInt8):Bool:=(f.Name==o0)
def jS (s:List bL) (t7:Int) (o0:List UInt8) (v_:Int):Tree (Int ⊕ (Int ⊕ Unit)):=
 .ite (decide (v_<t7)) (.ite (cN v_ s.length) (.opt (s[v_.toNat]?) fun y_1=>
  .ite (l4 y_1 o0) (.ret (.inr (.inl v_)))
  (.ret (.inl (ay (v_+1))))) .fail)
 (.ret (.inr (.inr ())))
def kb:=fun s t7 o0 v_=>(jS s t7 o0 v_).get
def kc:=fun s t7 o0 t8=>iter (kb s t7 o0) n_ t8
def gv (s:List bL) (o0:List UInt8):Tree Int:=
 .opt (kc n_ s (s.length:Int) o0 0) fun r_1=>
 bf r_1 (fun a_2=>
 .ret a_2) fun b_3=>
 .ret (-1)
def mO:=fun s o0=>(gv n_ s o0).get
def vM (l:List bL) (name:List UInt8):Tree (Int×Bool):=
 .opt (mO n_ l name) fun r_1=>
 .ret ((ay (r_1+1)),(decide (r_1≥0)))
def vN:=fun l name=>(vM n_ l name).get
def AD (l:List bL) (name:List UInt8):Tree (Int×Bool):=
 .opt (yO n_ name) fun r_1=>
 .ite (!r_1) (.ret (0,false))
 (.opt (vN n_ l name) fun r_2=>
 .ret (r_2.1,r_2.2))
def FQ:=fun l name=>(AD n_ l name).get
def Az (l:List bL):Tree (Int×Bool):=
 .opt (vN n_ l []) fun r_1=>
 .ret (r_1.1,r_1.2)
def FP:=fun l=>(Az n_ l).get
def pF (s:aG) (o3:List UInt8):Tree ((bA×aG) ⊕ cJ):=
 .opt (yO n_ o3) fun r_1=>
 .ite (!r_1) (.ret (.inr (cJ.mk 1)))
 (.opt (FQ n_ s.aP o3) fun r_2=>
 .ite (!r_2.2) (.opt (FP n_ s.aP) fun r_3=>
 .ite (!r_3.2) (.ret (.inr (cJ.mk 3)))
 (.ite (cN (ay (r_3.1-1)) s.aP.length) (.opt (s.aP[(ay (r_3.1-1)).toNat]?) fun y_4=>
  .ite (cN (ay (r_3.1-1)) (s.aP.set (ay (r_3.1-1)).toNat (bL.mk o3 1 [])).length) (.opt ((s.aP.set (ay (r_3.1-1)).toNat (bL.mk o3 1 []))[(ay (r_3.1-1)).toNat]?) fun y_5=>
  .ret (.inl ((bA.mk 0 0 r_3.1 y_5.pY),{s with aP:=(s.aP.set (ay (r_3.1-1)).toNat (bL.mk o3 1 []))}))) .fail) .fail))
 (.ite (cN (ay (r_2.1-1)) s.aP.length) (.opt (s.aP[(ay (r_2.1-1)).toNat]?) fun y_6=>
 .ret (.inl ((bA.mk 0 0 r_2.1 y_6.pY),s))) .fail))
def y9:=fun s o3=>(pF n_ s o3).get
def Ab (l:List bA) (aV:Int) (m:bA):Tree (List bA):=
 .ite (uW l aV) (.ite (cN (ay (aV-1)) l.length) (.opt (l[(ay (aV-1)).toNat]?) fun y_1=>
  .ite (decide (m.Seq>y_1.Seq)) (.ite (cN (ay (aV-1)) l.length) (.opt (l[(ay (aV-1)).toNat]?) fun y_2=>
   .ret (l.set (ay (aV-1)).toNat m)) .fail)
  (.ret l)) .fail)
 (.ret l)
def pf:=fun l aV m=>(Ab l aV m).get
def ur (s:aG) (aV:Int) (seq:Int) (o0:List UInt8):Tree (aG×bA):=
 .opt (y9 n_ s o0) fun r_1=>
 bf r_1 (fun a_2=>
 .opt (pf a_2.2.Marks aV {a_2.1 with Seq:=seq}) fun r_3=>
 .ret ({a_2.2 with Marks:=r_3},{a_2.1 with Seq:=seq})) fun b_4=>
 .opt (pf s.Marks aV (bA.mk seq b_4.e 0 0)) fun r_5=>
 .ret ({s with Marks:=r_5},(bA.mk seq b_4.e 0 0))
def EP:=fun s aV seq o0=>(ur n_ s aV seq o0).get
def uw (s:aG) (aV:Int) (seq:Int) (name:List UInt8):Tree (aG×bA):=
 .opt (EP n_ s aV seq name) fun r_1=>
 .ret (r_1.1,r_1.2)
def zF:=fun s aV seq name=>(uw n_ s aV seq name).get
def LG (s:aG):Unit:=()
def vk (home:Int) (l:List bB) (t10:List bB) (t11:Int) (d:aN) (v_:Int×Int):Tree ((Int×Int) ⊕ (bB ⊕ Unit)):=
 .ite (decide (v_.2<t11)) (.ite (cN v_.2 t10.length) (.opt (t10[v_.2.toNat]?) fun y_1=>
  .ite (decide (y_1.At≤v_.1)) (.ret (.inr (.inl y_1)))
  (.ite (decide (y_1.At≥home)) (.ret (.inr (.inl y_1)))
  (.ite ((y_1.B.length:Int) != 32) (.ret (.inr (.inl y_1)))
  (.ret (.inl (y_1.At,(ay (v_.2+1)))))))) .fail)
 (.ret (.inr (.inr ())))
def xM:=fun home l t10 t11 d v_=>(vk home l t10 t11 d v_).get
def DE:=fun home l t10 t11 d last t12=>iter (xM home l t10 t11 d) n_ (last,t12)
def Aj (d:aN) (home:Int) (l:List bB):Tree Bool:=
 .opt (DE n_ home l l (l.length:Int) d (-1) 0) fun r_1=>
 bf r_1 (fun a_2=>
 .ret false) fun b_3=>
 .ite (decide ((l.length:Int)≤16)) (.ret (decide ((ay (home+(l.length:Int)))<(d.aU.length:Int))))
 (.ret false)
def Fu:=fun d home l=>(Aj n_ d home l).get
def BE:Unit:=()
def gd (d:aN) (ok:Bool) (w:bc):Tree (bc ⊕ bc):=
 .ite (!ok) (.ret (.inr (bc.mk d)))
 (.ret (.inl (bc.mk d)))
def fb:=fun d ok w=>(gd d ok w).get
def lH (i:Int) (b:List UInt8) (w:bc):Tree ((bc×List (List UInt8)×List bB) ⊕ (bc×List (List UInt8)×List bB)):=
 .opt (rF w.d i b) fun r_1=>
 .opt (fb r_1.1 r_1.2 w) fun r_2=>
 bf r_2 (fun a_3=>
 .ret (.inl (a_3,w.d.aU,w.d.bC))) fun b_4=>
 .ret (.inr (b_4,w.d.aU,w.d.bC))
def jY:=fun i b w=>(lH i b w).get
def lI (w:bc):Tree (bc ⊕ bc):=
 .opt (vL n_ w.d) fun r_1=>
 .opt (fb r_1.1 r_1.2 w) fun r_2=>
 bf r_2 (fun a_3=>
 .ret (.inl a_3)) fun b_4=>
 .ret (.inr b_4)
def eN:=fun w=>(lI n_ w).get
def jG (i:Int) (b:List UInt8) (w:bc):Tree (bc ⊕ bc):=
 .opt (rF w.d i b) fun r_1=>
 .opt (fb r_1.1 r_1.2 w) fun r_2=>
 bf r_2 (fun a_3=>
 .ret (.inl a_3)) fun b_4=>
 .ret (.inr b_4)
def eU:=fun i b w=>(jG i b w).get
def s6 (t16:List bB) (t17:Int) (v_:Int×List UInt8):Tree ((Int×List UInt8) ⊕ (List UInt8)):=
 .ite (decide (v_.1<t17)) (.ite (cN v_.1 t16.length) (.opt (t16[v_.1.toNat]?) fun y_1=>
  .ite (cN (ay (2+v_.1)) v_.2.length) (.opt (v_.2[(ay (2+v_.1)).toNat]?) fun y_2=>
  .ret (.inl ((ay (v_.1+1)),(v_.2.set (ay (2+v_.1)).toNat (b8 (qj y_1.At)))))) .fail) .fail)
 (.ret (.inr v_.2))
def vl:=fun t16 t17 v_=>(s6 t16 t17 v_).get
def BF:=fun t16 t17 t18 b=>iter (vl t16 t17) n_ (t18,b)
def xN (l:List bB):Tree (List UInt8):=
 .ite (cN 1 ([0,0,0,0,0,0,0,0,0,0,0,0,0,0,0,0,0,0,0,0,0,0,0,0,0,0,0,0,0,0,0,0].set 0 1).length) (.opt (([0,0,0,0,0,0,0,0,0,0,0,0,0,0,0,0,0,0,0,0,0,0,0,0,0,0,0,0,0,0,0,0].set 0 1)[1]?) fun y_1=>
 .ite (cN 31 (([0,0,0,0,0,0,0,0,0,0,0,0,0,0,0,0,0,0,0,0,0,0,0,0,0,0,0,0,0,0,0,0].set 0 1).set 1 (b8 (qj (l.length:Int)))).length) (.opt ((([0,0,0,0,0,0,0,0,0,0,0,0,0,0,0,0,0,0,0,0,0,0,0,0,0,0,0,0,0,0,0,0].set 0 1).set 1 (b8 (qj (l.length:Int))))[31]?) fun y_2=>
  .opt (BF n_ l (l.length:Int) 0 ((([0,0,0,0,0,0,0,0,0,0,0,0,0,0,0,0,0,0,0,0,0,0,0,0,0,0,0,0,0,0,0,0].set 0 1).set 1 (b8 (qj (l.length:Int)))).set 31 1)) fun r_3=>
  .ret r_3) .fail) .fail
def CI:=fun l=>(xN n_ l).get
def me (home:Int) (l:List bB) (t54:List bB) (t55:Int) (o0:aN) (ok:Bool) (r4:List (List UInt8)) (r5:List bB) (v_:Int×aN×bc):Tree ((Int×aN×bc) ⊕ ((aN×bc×bB) ⊕ (aN×bc))):=
 .ite (decide (v_.1<t55)) (.ite (cN v_.1 t54.length) (.opt (t54[v_.1.toNat]?) fun y_1=>
  .opt (eU (ay ((ay (home+1))+v_.1)) y_1.B v_.2.2) fun r_2=>
  bf r_2 (fun a_3=>
  .ret (.inl ((ay (v_.1+1)),{v_.2.1 with aU:=[],bC:=[]},a_3))) fun b_4=>
  .ret (.inr (.inl ({v_.2.1 with aU:=[],bC:=[]},b_4,y_1)))) .fail)
 (.ret (.inr (.inr ({v_.2.1 with aU:=[],bC:=[]},v_.2.2))))
def nF:=fun home l t54 t55 o0 ok r4 r5 v_=>(me home l t54 t55 o0 ok r4 r5 v_).get
def xP:=fun home l t54 t55 o0 ok r4 r5 t56 x w=>iter (nF home l t54 t55 o0 ok r4 r5) n_ (t56,x,w)
def mc (t79:List bB) (t80:Int) (o0:aN) (ok:Bool) (r4:List (List UInt8)) (r5:List bB) (v_:Int×aN×bc):Tree ((Int×aN×bc) ⊕ ((aN×bc×bB) ⊕ (aN×bc))):=
 .ite (decide (v_.1<t80)) (.ite (cN v_.1 t79.length) (.opt (t79[v_.1.toNat]?) fun y_1=>
  .opt (eU y_1.At y_1.B v_.2.2) fun r_2=>
  bf r_2 (fun a_3=>
  .ret (.inl ((ay (v_.1+1)),{v_.2.1 with aU:=[],bC:=[]},a_3))) fun b_4=>
  .ret (.inr (.inl ({v_.2.1 with aU:=[],bC:=[]},b_4,y_1)))) .fail)
 (.ret (.inr (.inr ({v_.2.1 with aU:=[],bC:=[]},v_.2.2))))
def nE:=fun t79 t80 o0 ok r4 r5 v_=>(mc t79 t80 o0 ok r4 r5 v_).get
def xO:=fun t79 t80 o0 ok r4 r5 t81 x w=>iter (nE t79 t80 o0 ok r4 r5) n_ (t81,x,w)
def s7 (d:aN) (home:Int) (l:List bB):Tree (aN×Bool):=
 .ite ((l.length:Int)==0) (.ret (d,true))
 (.opt (Fu n_ d home l) fun r_1=>
 .ite (!r_1) (.ret (d,false))
 (.opt (jY home [0,0,0,0,0,0,0,0,0,0,0,0,0,0,0,0,0,0,0,0,0,0,0,0,0,0,0,0,0,0,0,0] (bc.mk d)) fun r_2=>
 bf r_2 (fun a_3=>
 .opt (eN n_ a_3.1) fun r_4=>
 bf r_4 (fun a_5=>
  .opt (xP n_ home l l (l.length:Int) d false a_3.2.1 a_3.2.2 0 (aN.mk [] [] 0 false) a_5) fun r_6=>
  bf r_6 (fun a_7=>
  .ret (a_7.2.1.d,false)) fun b_8=>
  .opt (eN n_ b_8.2) fun r_9=>
  bf r_9 (fun a_10=>
  .opt (CI n_ l) fun r_11=>
  .opt (eU home r_11 a_10) fun r_12=>
  bf r_12 (fun a_13=>
   .opt (eN n_ a_13) fun r_14=>
   bf r_14 (fun a_15=>
   .opt (xO n_ l (l.length:Int) d false a_3.2.1 a_3.2.2 0 (aN.mk [] [] b_8.1.gR b_8.1.Down) a_15) fun r_16=>
   bf r_16 (fun a_17=>
    .ret (a_17.2.1.d,false)) fun b_18=>
   .opt (eN n_ b_18.2) fun r_19=>
   bf r_19 (fun a_20=>
    .ret (a_20.d,true)) fun b_21=>
   .ret (b_21.d,false)) fun b_22=>
   .ret (b_22.d,false)) fun b_23=>
  .ret (b_23.d,false)) fun b_24=>
  .ret (b_24.d,false)) fun b_25=>
 .ret (b_25.d,false)) fun b_26=>
 .ret (b_26.1.d,false)))
def sx:=fun d home l=>(s7 n_ d home l).get
def rC (a:List (List UInt8)) (t7:List (List UInt8)) (t8:Int) (v_:Int×List bB):Tree ((Int×List bB) ⊕ (List bB)):=
 .ite (decide (v_.1<t8)) (.ite (cN v_.1 t7.length) (.opt (t7[v_.1.toNat]?) fun y_1=>
  .ite (decide (v_.1≥(a.length:Int))) (.ite (decide ((v_.2.length+1)≤dK)) (.ret (.inl ((ay (v_.1+1)),(v_.2++[(bB.mk v_.1 y_1)])))) .fail)
  (.ite (cN v_.1 a.length) (.opt (a[v_.1.toNat]?) fun y_2=>
  .ite (!(y_2==y_1)) (.ite (decide ((v_.2.length+1)≤dK)) (.ret (.inl ((ay (v_.1+1)),(v_.2++[(bB.mk v_.1 y_1)])))) .fail)
  (.ret (.inl ((ay (v_.1+1)),v_.2)))) .fail)) .fail)
 (.ret (.inr v_.2))
def ta:=fun a t7 t8 v_=>(rC a t7 t8 v_).get
def zn:=fun a t7 t8 t9 l=>iter (ta a t7 t8) n_ (t9,l)
def vt (a:List (List UInt8)) (b:List (List UInt8)):Tree (List bB):=
 .opt (zn n_ a b (b.length:Int) 0 []) fun r_1=>
 .ret r_1
def Am:=fun a b=>(vt n_ a b).get
def qP (st:bV) (s:aG):Tree (bV×Bool):=
 .opt (oI n_ s) fun r_1=>
 .ite ((r_1.length:Int)==0) (.opt (sx n_ st.D 0 []) fun r_2=>
 .ret ((bV.mk r_2.1 st.S),false))
 (.opt (qN n_) fun r_3=>
 .opt (oI n_ st.S) fun r_4=>
 .opt (Am n_ r_4 r_1) fun r_5=>
 .opt (sx n_ st.D r_3 r_5) fun r_6=>
 .ite r_6.2 (.ret ((bV.mk r_6.1 s),r_6.2))
 (.ret ((bV.mk r_6.1 st.S),r_6.2)))
def iV:=fun st s=>(qP n_ st s).get
def gk (s:aG) (h:ax):Tree ((ax×List (List UInt8)×List bB) ⊕ (ax×List (List UInt8)×List bB)):=
 .opt (iV n_ h.Server.aA s) fun r_1=>
 .ite (!r_1.2) (.ret (.inr ((ax.mk {h.Server with aA:=r_1.1} []),h.Server.aA.D.aU,h.Server.aA.D.bC)))
 (.ret (.inl ((ax.mk {h.Server with aA:=r_1.1} []),h.Server.aA.D.aU,h.Server.aA.D.bC)))
def fD:=fun s h=>(gk n_ s h).get
def gG (a:bp) (m:bA) (h:ax):Tree ax:=
 .opt (dq a (ck.mk 0 0 0 0 m.Gw m.aX 0 m.pY []) {h with told:=[]}) fun r_1=>
 .ret r_1
def fZ:=fun a m h=>(gG a m h).get
def lC (a:bp) (h:ax):Tree ((ax×List (List UInt8)×List bB×List bL×List bA) ⊕ (ax×List (List UInt8)×List bB×List bL×List bA)):=
 .opt (zF n_ h.Server.aA.S a.bn a.Seq a.Name) fun r_1=>
 .opt (fD n_ r_1.1 {h with told:=[]}) fun r_2=>
 bf r_2 (fun a_3=>
 .opt (fZ a r_1.2 {a_3.1 with told:=[]}) fun r_4=>
 .ret (.inl (r_4,a_3.2.1,a_3.2.2,h.Server.aA.S.aP,h.Server.aA.S.Marks))) fun b_5=>
 .ret (.inr ({b_5.1 with told:=[]},b_5.2.1,b_5.2.2,h.Server.aA.S.aP,h.Server.aA.S.Marks))
def ni:=fun a h=>(lC n_ a h).get
def im (n:Int) (h:ax):Tree Bool:=
 .ite (decide (n≥1)) (.ite (decide (n≤(h.Server.aA.S.aP.length:Int))) (.ite (cN (ay (n-1)) h.Server.aA.S.aP.length) (.opt (h.Server.aA.S.aP[(ay (n-1)).toNat]?) fun y_1=>
  .ret (!(y_1.Name==[]))) .fail)
 (.ret false))
 (.ret false)
def gF:=fun n h=>(im n h).get
def eM (x:aT) (o0:Int):Bool:=(decide (x.ig≤o0))
def ka (s:List aT) (t7:Int) (o0:Int) (v_:Int):Tree (Int ⊕ (Int ⊕ Unit)):=
 .ite (decide (v_<t7)) (.ite (cN v_ s.length) (.opt (s[v_.toNat]?) fun y_1=>
  .ite (eM y_1 o0) (.ret (.inr (.inl v_)))
  (.ret (.inl (ay (v_+1))))) .fail)
 (.ret (.inr (.inr ())))
def lq:=fun s t7 o0 v_=>(ka s t7 o0 v_).get
def lr:=fun s t7 o0 t8=>iter (lq s t7 o0) n_ t8
def gV (s:List aT) (o0:Int):Tree Int:=
 .opt (lr n_ s (s.length:Int) o0 0) fun r_1=>
 bf r_1 (fun a_2=>
 .ret a_2) fun b_3=>
 .ret (-1)
def iY:=fun s o0=>(gV n_ s o0).get
def jT (o1:Int) (v_:Int×Int×List aT):Tree ((Int×Int×List aT) ⊕ (Int×List aT)):=
 .ite (decide (v_.2.1<(v_.2.2.length:Int))) (.ite (cN v_.2.1 v_.2.2.length) (.opt (v_.2.2[v_.2.1.toNat]?) fun y_1=>
  .ite (!(eM y_1 o1)) (.ite (cN v_.1 v_.2.2.length) (.opt (v_.2.2[v_.1.toNat]?) fun y_2=>
   .ret (.inl ((ay (v_.1+1)),(ay (v_.2.1+1)),(v_.2.2.set v_.1.toNat y_1)))) .fail)
  (.ret (.inl (v_.1,(ay (v_.2.1+1)),v_.2.2)))) .fail)
 (.ret (.inr (v_.1,v_.2.2)))
def kh:=fun o1 v_=>(jT o1 v_).get
def kj:=fun o1 i j s=>iter (kh o1) n_ (i,j,s)
def gw (o1:Int) (r0:List aT):Tree (List aT):=
 .opt (iY n_ r0 o1) fun r_1=>
 .ite (r_1==(-1)) (.ret r0)
 (.opt (kj n_ o1 r_1 (ay (r_1+1)) r0) fun r_2=>
 .ite (cN r_2.1 r_2.2.length) (.ret (eo r_2.2 0 r_2.1)) .fail)
def mP:=fun o1 r0=>(gw n_ o1 r0).get
def sX (l:List aT) (now:Int):Tree (List aT):=
 .opt (mP n_ now l) fun r_1=>
 .ret r_1
def xC:=fun l now=>(sX n_ l now).get
def tm (d:b9) (now:Int):Tree b9:=
 .opt (xC n_ d.bF now) fun r_1=>
 .ret (b9.mk r_1 d.cZ)
def x3:=fun d now=>(tm n_ d now).get
def l5 (x:Int):Bool:=(x != x)
def nM (x:Int) (y:Int):TT Int:=
 .ite (l5 x) (.ite (l5 y) (.ret 0)
 (.ret (-1)))
 (.ite (l5 y) (.ret 1)
 (.ite (decide (x<y)) (.ret (-1))
 (.ite (decide (x>y)) (.ret 1)
 (.ret 0))))
def mh:=fun x y=>(nM x y).val
def yg (zero:Int) (t6:List Int) (t7:Int) (v_:Int):Tree (Int ⊕ (Int ⊕ Unit)):=
 .ite (decide (v_<t7)) (.ite (cN v_ t6.length) (.opt (t6[v_.toNat]?) fun y_1=>
  .ite (y_1 != zero) (.ret (.inr (.inl y_1)))
  (.ret (.inl (ay (v_+1))))) .fail)
 (.ret (.inr (.inr ())))
def oW:=fun zero t6 t7 v_=>(yg zero t6 t7 v_).get
def zt:=fun zero t6 t7 t8=>iter (oW zero t6 t7) n_ t8
def vT (vals:List Int):Tree Int:=
 .opt (zt n_ 0 vals (vals.length:Int) 0) fun r_1=>
 bf r_1 (fun a_2=>
 .ret a_2) fun b_3=>
 .ret 0
def AK:=fun vals=>(vT n_ vals).get
def sW (a:aT) (b:aT):Tree Int:=
 .opt (AK n_ [(mh a.aX b.aX),(mh a.Client b.Client)]) fun r_1=>
 .ret r_1
def sq:=fun a b=>(sW n_ a b).get
def ep (x:List aT) (n:Int) (target:aT) (v_:Int×Int):Tree ((Int×Int) ⊕ Int):=
 .ite (decide (v_.1<v_.2)) (.ite (cN (ay (qX .u64 (uf (ay (v_.1+v_.2))) 1)) x.length) (.opt (x[(ay (qX .u64 (uf (ay (v_.1+v_.2))) 1)).toNat]?) fun y_1=>
  .opt (sq n_ y_1 target) fun r_2=>
  .ite (decide (r_2<0)) (.ret (.inl ((ay ((ay (qX .u64 (uf (ay (v_.1+v_.2))) 1))+1)),v_.2)))
  (.ret (.inl (v_.1,(ay (qX .u64 (uf (ay (v_.1+v_.2))) 1)))))) .fail)
 (.ret (.inr v_.1))
def eG:=fun x n target v_=>(ep n_ x n target v_).get
def gE:=fun x n target i j=>iter (eG n_ x n target) n_ (i,j)
def eW (x:List aT) (target:aT):Tree (Int×Bool):=
 .opt (gE n_ x (x.length:Int) target 0 (x.length:Int)) fun r_1=>
 .ite (decide (r_1<(x.length:Int))) (.ite (cN r_1 x.length) (.opt (x[r_1.toNat]?) fun y_2=>
  .opt (sq n_ y_2 target) fun r_3=>
  .ret (r_1,(r_3==0))) .fail)
 (.ret (r_1,false))
def dR:=fun x target=>(eW n_ x target).get
def sY (l:List aT) (now:Int) (aV:Int) (file:Int):Tree Int:=
 .opt (dR n_ l (aT.mk aV file 0 0)) fun r_1=>
 .ite (!r_1.2) (.ret 0)
 (.ite (cN r_1.1 l.length) (.opt (l[r_1.1.toNat]?) fun y_2=>
 .ite (decide (now≥y_2.ig)) (.ret 0)
 (.ite (cN r_1.1 l.length) (.opt (l[r_1.1.toNat]?) fun y_3=>
  .ret y_3.Mode) .fail)) .fail)
def pk:=fun l now aV file=>(sY n_ l now aV file).get
def pS (l:List aT) (now:Int) (aV:Int) (file:Int) (mode:Int) (t14:List aT) (t15:Int) (v_:Int×List Int):Tree ((Int×List Int) ⊕ (List Int)):=
 .ite (decide (v_.1<t15)) (.ite (cN v_.1 t14.length) (.opt (t14[v_.1.toNat]?) fun y_1=>
  .ite (y_1.aX != file) (.ret (.inl ((ay (v_.1+1)),v_.2)))
  (.ite (y_1.Client==aV) (.ret (.inl ((ay (v_.1+1)),v_.2)))
  (.opt (pk n_ l now y_1.Client file) fun r_2=>
  .ite (r_2 != 0) (.ite (mode==2) (.ite (decide ((v_.2.length+1)≤dK)) (.ret (.inl ((ay (v_.1+1)),(v_.2++[y_1.Client])))) .fail)
  (.ite (r_2==2) (.ite (decide ((v_.2.length+1)≤dK)) (.ret (.inl ((ay (v_.1+1)),(v_.2++[y_1.Client])))) .fail)
  (.ret (.inl ((ay (v_.1+1)),v_.2)))))
  (.ret (.inl ((ay (v_.1+1)),v_.2)))))) .fail)
 (.ret (.inr v_.2))
def ru:=fun l now aV file mode t14 t15 v_=>(pS n_ l now aV file mode t14 t15 v_).get
def xE:=fun l now aV file mode t14 t15 t16 out=>iter (ru n_ l now aV file mode t14 t15) n_ (t16,out)
def s4 (l:List aT) (now:Int) (aV:Int) (file:Int) (mode:Int):Tree (List Int):=
 .opt (xE n_ l now aV file mode l (l.length:Int) 0 []) fun r_1=>
 .ret r_1
def pn:=fun l now aV file mode=>(s4 n_ l now aV file mode).get
def qv (d:b9) (now:Int) (w:bG):Tree (List Int):=
 .opt (pn n_ d.bF now w.Client w.aX w.Mode) fun r_1=>
 .ret r_1
def oK:=fun d now w=>(qv n_ d now w).get
def rr (aV:Int) (file:Int) (t9:List bG) (t10:Int) (v_:Int):Tree (Int ⊕ ((Bool×bG) ⊕ Unit)):=
 .ite (decide (v_<t10)) (.ite (cN v_ t9.length) (.opt (t9[v_.toNat]?) fun y_1=>
  .ite (y_1.aX != file) (.ret (.inl (ay (v_+1))))
  (.ret (.inr (.inl ((y_1.Client != aV),y_1))))) .fail)
 (.ret (.inr (.inr ())))
def sV:=fun aV file t9 t10 v_=>(rr aV file t9 t10 v_).get
def zj:=fun aV file t9 t10 t11=>iter (sV aV file t9 t10) n_ t11
def uY (l:List bG) (aV:Int) (file:Int):Tree Bool:=
 .opt (zj n_ aV file l (l.length:Int) 0) fun r_1=>
 bf r_1 (fun a_2=>
 .ret a_2.1) fun b_3=>
 .ret false
def Af:=fun l aV file=>(uY n_ l aV file).get
def AE (d:b9) (now:Int) (w:bG):Tree Bool:=
 .opt (oK n_ d now w) fun r_1=>
 .ite ((r_1.length:Int)==0) (.opt (Af n_ d.cZ w.Client w.aX) fun r_2=>
 .ret (!r_2))
 (.ret false)
def FU:=fun d now w=>(AE n_ d now w).get
def yi (a:Int) (b:Int):TT Int:=
 .ite (decide (a>0)) (.ite (decide (b>(ay (9223372036854775807-a)))) (.ret 9223372036854775807)
 (.ret (ay (a+b))))
 (.ret (ay (a+b)))
def fT:=fun a b=>(yi a b).val
def sZ (l:List aT) (x:aT):Tree (List aT):=
 .opt (dR n_ l x) fun r_1=>
 .ite (!r_1.2) (.ite (BI l r_1.1 [x]) (.ret (yZ l r_1.1 [x])) .fail)
 (.ite (cN r_1.1 l.length) (.opt (l[r_1.1.toNat]?) fun y_2=>
 .ite (cN r_1.1 l.length) (.opt (l[r_1.1.toNat]?) fun y_3=>
  .ite (cN r_1.1 l.length) (.opt (l[r_1.1.toNat]?) fun y_4=>
  .ite (cN r_1.1 (l.set r_1.1.toNat {y_4 with Mode:=(imax y_2.Mode x.Mode)}).length) (.opt ((l.set r_1.1.toNat {y_4 with Mode:=(imax y_2.Mode x.Mode)})[r_1.1.toNat]?) fun y_5=>
   .ret ((l.set r_1.1.toNat {y_4 with Mode:=(imax y_2.Mode x.Mode)}).set r_1.1.toNat {y_5 with ig:=(imax y_3.ig x.ig)})) .fail) .fail) .fail) .fail)
def xD:=fun l x=>(sZ n_ l x).get
def fM (w:bG) (o0:Int):Bool:=(w.Client==o0)
def ll (s:List bG) (t7:Int) (o0:Int) (v_:Int):Tree (Int ⊕ (Int ⊕ Unit)):=
 .ite (decide (v_<t7)) (.ite (cN v_ s.length) (.opt (s[v_.toNat]?) fun y_1=>
  .ite (fM y_1 o0) (.ret (.inr (.inl v_)))
  (.ret (.inl (ay (v_+1))))) .fail)
 (.ret (.inr (.inr ())))
def lS:=fun s t7 o0 v_=>(ll s t7 o0 v_).get
def lT:=fun s t7 o0 t8=>iter (lS s t7 o0) n_ t8
def iA (s:List bG) (o0:Int):Tree Int:=
 .opt (lT n_ s (s.length:Int) o0 0) fun r_1=>
 bf r_1 (fun a_2=>
 .ret a_2) fun b_3=>
 .ret (-1)
def jx:=fun s o0=>(iA n_ s o0).get
def kg (o1:Int) (v_:Int×Int×List bG):Tree ((Int×Int×List bG) ⊕ (Int×List bG)):=
 .ite (decide (v_.2.1<(v_.2.2.length:Int))) (.ite (cN v_.2.1 v_.2.2.length) (.opt (v_.2.2[v_.2.1.toNat]?) fun y_1=>
  .ite (!(fM y_1 o1)) (.ite (cN v_.1 v_.2.2.length) (.opt (v_.2.2[v_.1.toNat]?) fun y_2=>
   .ret (.inl ((ay (v_.1+1)),(ay (v_.2.1+1)),(v_.2.2.set v_.1.toNat y_1)))) .fail)
  (.ret (.inl (v_.1,(ay (v_.2.1+1)),v_.2.2)))) .fail)
 (.ret (.inr (v_.1,v_.2.2)))
def lu:=fun o1 v_=>(kg o1 v_).get
def lx:=fun o1 i j s=>iter (lu o1) n_ (i,j,s)
def gY (o1:Int) (r0:List bG):Tree (List bG):=
 .opt (jx n_ r0 o1) fun r_1=>
 .ite (r_1==(-1)) (.ret r0)
 (.opt (lx n_ o1 r_1 (ay (r_1+1)) r0) fun r_2=>
 .ite (cN r_2.1 r_2.2.length) (.ret (eo r_2.2 0 r_2.1)) .fail)
def ng:=fun o1 r0=>(gY n_ o1 r0).get
def sn (l:List bG) (aV:Int):Tree (List bG):=
 .opt (ng n_ aV l) fun r_1=>
 .ret r_1
def qC:=fun l aV=>(sn n_ l aV).get
def x6 (d:b9) (now:Int) (w:bG):Tree b9:=
 .opt (xD n_ d.bF (aT.mk w.Client w.aX w.Mode (fT now 60))) fun r_1=>
 .opt (qC n_ d.cZ w.Client) fun r_2=>
 .ret (b9.mk r_1 r_2)
def C1:=fun d now w=>(x6 n_ d now w).get
def lY (w:bG) (o0:Int):Bool:=(w.Client==o0)
def jP (s:List bG) (t7:Int) (o0:Int) (v_:Int):Tree (Int ⊕ (Int ⊕ Unit)):=
 .ite (decide (v_<t7)) (.ite (cN v_ s.length) (.opt (s[v_.toNat]?) fun y_1=>
  .ite (lY y_1 o0) (.ret (.inr (.inl v_)))
  (.ret (.inl (ay (v_+1))))) .fail)
 (.ret (.inr (.inr ())))
def j8:=fun s t7 o0 v_=>(jP s t7 o0 v_).get
def j9:=fun s t7 o0 t8=>iter (j8 s t7 o0) n_ t8
def gq (s:List bG) (o0:Int):Tree Int:=
 .opt (j9 n_ s (s.length:Int) o0 0) fun r_1=>
 bf r_1 (fun a_2=>
 .ret a_2) fun b_3=>
 .ret (-1)
def mN:=fun s o0=>(gq n_ s o0).get
def uX (l:List bG) (aV:Int):Tree Int:=
 .opt (mN n_ l aV) fun r_1=>
 .ret r_1
def Ad:=fun l aV=>(uX n_ l aV).get
def Ae (l:List bG) (w:bG):Tree (List bG×Bool):=
 .opt (Ad n_ l w.Client) fun r_1=>
 .ite (decide (r_1≥0)) (.ite (cN r_1 l.length) (.opt (l[r_1.toNat]?) fun y_2=>
  .ite (y_2.aX==w.aX) (.ite (cN r_1 l.length) (.opt (l[r_1.toNat]?) fun y_3=>
   .ret ((l.set r_1.toNat w),true)) .fail)
  (.opt (qC n_ l w.Client) fun r_4=>
  .ite (decide ((r_4.length:Int)≥4)) (.ret (l,false))
  (.ite (decide ((r_4.length+1)≤dK)) (.ret ((r_4++[w]),true)) .fail))) .fail)
 (.opt (qC n_ l w.Client) fun r_5=>
 .ite (decide ((r_5.length:Int)≥4)) (.ret (l,false))
 (.ite (decide ((r_5.length+1)≤dK)) (.ret ((r_5++[w]),true)) .fail))
def Fo:=fun l w=>(Ae n_ l w).get
def AF (d:b9) (now:Int) (w:bG):Tree (b9×Bool×List Int×Int):=
 .opt (x3 n_ d now) fun r_1=>
 .opt (FU n_ r_1 now w) fun r_2=>
 .ite r_2 (.opt (C1 n_ r_1 now w) fun r_3=>
 .ret (r_3,true,[],0))
 (.opt (Fo n_ r_1.cZ w) fun r_4=>
 .ite (!r_4.2) (.ret (r_1,false,[],3))
 (.opt (oK n_ {r_1 with cZ:=r_4.1} now w) fun r_5=>
 .ret ({r_1 with cZ:=r_4.1},false,r_5,0)))
def FV:=fun d now w=>(AF n_ d now w).get
def mn (w:bG) (h:ax):Tree (ax ⊕ ax):=
 .opt (pk n_ h.Server.bd.bF h.Server.gQ w.Client w.aX) fun r_1=>
 .opt (gF w.aX {h with told:=[]}) fun r_2=>
 .ite r_2 (.ite (cN (ay (w.aX-1)) h.Server.aA.S.aP.length) (.opt (h.Server.aA.S.aP[(ay (w.aX-1)).toNat]?) fun y_3=>
  .opt (iG w.Client (ck.mk 0 0 0 w.Seq 0 w.aX r_1 y_3.pY y_3.Body) {h with told:=[]}) fun r_4=>
  .ret (.inr r_4)) .fail)
 (.opt (iG w.Client (ck.mk 0 0 0 w.Seq 0 w.aX r_1 0 []) {h with told:=[]}) fun r_5=>
 .ret (.inl r_5))
def oq:=fun w h=>(mn n_ w h).get
def lE (aV:Int) (file:Int) (h:ax):Tree ax:=
 .ite (decide ((h.told.length+1)≤dK)) (.ret ({h with told:=(h.told++[(ck.mk 2 aV h.Server.aA.S.aS 0 0 file 0 0 [])])})) .fail
def gH:=fun aV file h=>(lE aV file h).get
def yX (aV:Int) (file:Int) (h:ax):ax:=({h with told:=[(ck.mk 2 aV h.Server.aA.S.aS 0 0 file 0 0 [])]})
def oa (t64:List Int) (t65:Int) (a:bp) (o10:bG) (o11:b9) (r5:List aT) (r6:List bG) (v_:Int×ax):Tree ((Int×ax) ⊕ ax):=
 .ite (decide (v_.1<t65)) (.ite (cN v_.1 t64.length) (.opt (t64[v_.1.toNat]?) fun y_1=>
  .opt (gH y_1 a.aX v_.2) fun r_2=>
  .ret (.inl ((ay (v_.1+1)),r_2))) .fail)
 (.ret (.inr v_.2))
def wZ:=fun t64 t65 a o10 o11 r5 r6 v_=>(oa t64 t65 a o10 o11 r5 r6 v_).get
def ei:=fun t64 t65 a o10 o11 r5 r6 t66 h=>iter (wZ t64 t65 a o10 o11 r5 r6) n_ (t66,h)
def n9 (t64:List Int) (t65:Int) (a:bp) (o10:bG) (o11:b9) (r5:List aT) (r6:List bG) (v_:Int×ax):Tree ((Int×ax) ⊕ ax):=
 .ite (decide (v_.1<t65)) (.ite (cN v_.1 t64.length) (.opt (t64[v_.1.toNat]?) fun y_1=>
  .opt (gH y_1 a.aX v_.2) fun r_2=>
  .ret (.inl ((ay (v_.1+1)),r_2))) .fail)
 (.ret (.inr v_.2))
def wY:=fun t64 t65 a o10 o11 r5 r6 v_=>(n9 t64 t65 a o10 o11 r5 r6 v_).get
def km:=fun t64 t65 a o10 o11 r5 r6 t66 h=>iter (wY t64 t65 a o10 o11 r5 r6) n_ (t66,h)
def nZ (t64:List Int) (t65:Int) (a:bp) (o10:bG) (o11:b9) (r5:List aT) (r6:List bG) (v_:Int×ax):Tree ((Int×ax) ⊕ ax):=
 .ite (decide (v_.1<t65)) (.ite (cN v_.1 t64.length) (.opt (t64[v_.1.toNat]?) fun y_1=>
  .opt (gH y_1 a.aX v_.2) fun r_2=>
  .ret (.inl ((ay (v_.1+1)),r_2))) .fail)
 (.ret (.inr v_.2))
def o9:=fun t64 t65 a o10 o11 r5 r6 v_=>(nZ t64 t65 a o10 o11 r5 r6 v_).get
def pc:=fun t64 t65 a o10 o11 r5 r6 t66 h=>iter (o9 t64 t65 a o10 o11 r5 r6) n_ (t66,h)
def lD (a:bp) (h:ax):Tree (ax ⊕ ((ax×List aT×List bG) ⊕ ((ax×List aT×List bG) ⊕ (ax×List aT×List bG)))):=
 .opt (gF a.aX {h with told:=[]}) fun r_1=>
 .ite (!r_1) (.opt (dq a (ck.mk 0 0 0 0 2 0 0 0 []) {h with told:=[]}) fun r_2=>
 .ret (.inl r_2))
 (.opt (FV n_ h.Server.bd h.Server.gQ (bG.mk a.bn a.Seq a.aX a.Mode)) fun r_3=>
 .ite r_3.2.1 (.opt (oq n_ (bG.mk a.bn a.Seq a.aX a.Mode) (ax.mk {h.Server with bd:=r_3.1} [])) fun r_4=>
 bf r_4 (fun a_5=>
  .opt (ei n_ r_3.2.2.1 (r_3.2.2.1.length:Int) a (bG.mk a.bn a.Seq a.aX a.Mode) r_3.1 h.Server.bd.bF h.Server.bd.cZ 0 a_5) fun r_6=>
  .ret (.inr (.inr (.inl (r_6,h.Server.bd.bF,h.Server.bd.cZ))))) fun b_7=>
 .opt (km n_ r_3.2.2.1 (r_3.2.2.1.length:Int) a (bG.mk a.bn a.Seq a.aX a.Mode) r_3.1 h.Server.bd.bF h.Server.bd.cZ 0 b_7) fun r_8=>
 .ret (.inr (.inr (.inr (r_8,h.Server.bd.bF,h.Server.bd.cZ)))))
 (.ite (r_3.2.2.2 != 0) (.opt (dq a (ck.mk 0 0 0 0 r_3.2.2.2 0 0 0 []) (ax.mk {h.Server with bd:=r_3.1} [])) fun r_9=>
 .opt (ei n_ r_3.2.2.1 (r_3.2.2.1.length:Int) a (bG.mk a.bn a.Seq a.aX a.Mode) r_3.1 h.Server.bd.bF h.Server.bd.cZ 0 r_9) fun r_10=>
 .ret (.inr (.inr (.inl (r_10,h.Server.bd.bF,h.Server.bd.cZ)))))
 (.opt (pc n_ r_3.2.2.1 (r_3.2.2.1.length:Int) a (bG.mk a.bn a.Seq a.aX a.Mode) r_3.1 h.Server.bd.bF h.Server.bd.cZ 0 (ax.mk {h.Server with bd:=r_3.1} [])) fun r_11=>
 .ret (.inr (.inl (r_11,h.Server.bd.bF,h.Server.bd.cZ))))))
def nj:=fun a h=>(lD n_ a h).get
def sL (n:Int) (s:aG):Tree (Nat ⊕ Unit):=
 .ite (decide (n<1)) (.ret (.inr ()))
 (.ite (decide (n>(s.aP.length:Int))) (.ret (.inr ()))
 (.ite (cN (ay (n-1)) s.aP.length) (.opt (s.aP[(ay (n-1)).toNat]?) fun y_1=>
 .ite (y_1.Name==[]) (.ret (.inr ()))
 (.ite (cN (ay (n-1)) s.aP.length) (.ret (.inl ((ay (n-1)).toNat))) .fail)) .fail))
def sa:=fun n s=>(sL n s).get
def ft (w:aY):Bool:=(!(bQ w))
def jl (s:List aY) (t7:Int) (v_:Int):Tree (Int ⊕ (Int ⊕ Unit)):=
 .ite (decide (v_<t7)) (.ite (cN v_ s.length) (.opt (s[v_.toNat]?) fun y_1=>
  .ite (ft y_1) (.ret (.inr (.inl v_)))
  (.ret (.inl (ay (v_+1))))) .fail)
 (.ret (.inr (.inr ())))
def jM:=fun s t7 v_=>(jl s t7 v_).get
def jN:=fun s t7 t8=>iter (jM s t7) n_ t8
def fU (s:List aY):Tree Int:=
 .opt (jN n_ s (s.length:Int) 0) fun r_1=>
 bf r_1 (fun a_2=>
 .ret a_2) fun b_3=>
 .ret (-1)
def lR:=fun s=>(fU n_ s).get
def fm (s:List aY):Tree Bool:=
 .opt (lR n_ s) fun r_1=>
 .ret (decide (r_1≥0))
def fL:=fun s=>(fm n_ s).get
def Ar (body:List UInt8) (w:aY):Tree (List UInt8):=
 .ite (!(bQ w)) (.ret body)
 (.ite (decide ((ay (w.nS-(body.length:Int)))>0)) (.ite (EW ([0]:List UInt8) (ay (w.nS-(body.length:Int)))) (.ite (decide ((body.length+(pI ([0]:List UInt8) (ay (w.nS-(body.length:Int)))).length)≤dK)) (.ite (kJ 0 w.nS (body++(pI ([0]:List UInt8) (ay (w.nS-(body.length:Int))))).length) (.ite (decide (((eo (body++(pI ([0]:List UInt8) (ay (w.nS-(body.length:Int))))) 0 w.nS).length+w.B.length)≤dK)) (.ite (kJ (ew (ay (w.nS+(w.B.length:Int))) ((body++(pI ([0]:List UInt8) (ay (w.nS-(body.length:Int))))).length:Int)) ((body++(pI ([0]:List UInt8) (ay (w.nS-(body.length:Int))))).length:Int) (body++(pI ([0]:List UInt8) (ay (w.nS-(body.length:Int))))).length) (.ite (decide ((((eo (body++(pI ([0]:List UInt8) (ay (w.nS-(body.length:Int))))) 0 w.nS)++w.B).length+(eo (body++(pI ([0]:List UInt8) (ay (w.nS-(body.length:Int))))) (ew (ay (w.nS+(w.B.length:Int))) ((body++(pI ([0]:List UInt8) (ay (w.nS-(body.length:Int))))).length:Int)) ((body++(pI ([0]:List UInt8) (ay (w.nS-(body.length:Int))))).length:Int)).length)≤dK)) (.ret (((eo (body++(pI ([0]:List UInt8) (ay (w.nS-(body.length:Int))))) 0 w.nS)++w.B)++(eo (body++(pI ([0]:List UInt8) (ay (w.nS-(body.length:Int))))) (ew (ay (w.nS+(w.B.length:Int))) ((body++(pI ([0]:List UInt8) (ay (w.nS-(body.length:Int))))).length:Int)) ((body++(pI ([0]:List UInt8) (ay (w.nS-(body.length:Int))))).length:Int)))) .fail) .fail) .fail) .fail) .fail) .fail)
 (.ite (kJ 0 w.nS body.length) (.ite (decide (((eo body 0 w.nS).length+w.B.length)≤dK)) (.ite (kJ (ew (ay (w.nS+(w.B.length:Int))) (body.length:Int)) (body.length:Int) body.length) (.ite (decide ((((eo body 0 w.nS)++w.B).length+(eo body (ew (ay (w.nS+(w.B.length:Int))) (body.length:Int)) (body.length:Int)).length)≤dK)) (.ret (((eo body 0 w.nS)++w.B)++(eo body (ew (ay (w.nS+(w.B.length:Int))) (body.length:Int)) (body.length:Int)))) .fail) .fail) .fail) .fail))
def FD:=fun body w=>(Ar body w).get
def vE (t7:List aY) (t8:Int) (v_:List UInt8×Int):Tree ((List UInt8×Int) ⊕ (List UInt8)):=
 .ite (decide (v_.2<t8)) (.ite (cN v_.2 t7.length) (.opt (t7[v_.2.toNat]?) fun y_1=>
  .opt (FD v_.1 y_1) fun r_2=>
  .ret (.inl (r_2,(ay (v_.2+1))))) .fail)
 (.ret (.inr v_.1))
def xV:=fun t7 t8 v_=>(vE t7 t8 v_).get
def DI:=fun t7 t8 body t9=>iter (xV t7 t8) n_ (body,t9)
def As (body:List UInt8) (l:List aY):Tree (List UInt8):=
 .opt (DI n_ l (l.length:Int) body 0) fun r_1=>
 .ret r_1
def FE:=fun body l=>(As n_ body l).get
def om (s:aG) (o3:Int) (o4:List aY):Tree ((bA×aG) ⊕ cJ):=
 .opt (sa o3 s) fun r_1=>
 bf r_1 (fun a_2=>
 .ite ((o4.length:Int)==0) (.ret (.inr (cJ.mk 1)))
 (.ite (decide ((o4.length:Int)>5)) (.ret (.inr (cJ.mk 1)))
 (.opt (fL n_ o4) fun r_3=>
 .ite r_3 (.ret (.inr (cJ.mk 1)))
 (.opt (s.aP[a_2]?) fun y_4=>
 .opt (FE n_ y_4.Body o4) fun r_5=>
 .opt (s.aP[a_2]?) fun y_6=>
 .opt (s.aP[a_2]?) fun y_7=>
 .opt ((s.aP.set a_2 {y_7 with Body:=r_5})[a_2]?) fun y_8=>
 .opt (((s.aP.set a_2 {y_7 with Body:=r_5}).set a_2 {y_8 with pY:=(ew (ay (y_6.pY+1)) 1073741824)})[a_2]?) fun y_9=>
 .ret (.inl ((bA.mk 0 0 o3 y_9.pY),{s with aP:=((s.aP.set a_2 {y_7 with Body:=r_5}).set a_2 {y_8 with pY:=(ew (ay (y_6.pY+1)) 1073741824)})})))))) fun b_10=>
 .ret (.inr (cJ.mk 2))
def wN:=fun s o3 o4=>(om n_ s o3 o4).get
def qR (s:aG) (aV:Int) (seq:Int) (o0:Int) (o1:List aY):Tree (aG×bA):=
 .opt (wN n_ s o0 o1) fun r_1=>
 bf r_1 (fun a_2=>
 .opt (pf a_2.2.Marks aV {a_2.1 with Seq:=seq}) fun r_3=>
 .ret ({a_2.2 with Marks:=r_3},{a_2.1 with Seq:=seq})) fun b_4=>
 .opt (pf s.Marks aV (bA.mk seq b_4.e 0 0)) fun r_5=>
 .ret ({s with Marks:=r_5},(bA.mk seq b_4.e 0 0))
def A7:=fun s aV seq o0 o1=>(qR n_ s aV seq o0 o1).get
def sO (s:aG) (aV:Int) (seq:Int) (n:Int) (l:List aY):Tree (aG×bA):=
 .opt (A7 n_ s aV seq n l) fun r_1=>
 .ret (r_1.1,r_1.2)
def wO:=fun s aV seq n l=>(sO n_ s aV seq n l).get
def jC (a:bp) (h:ax):Tree (ax ⊕ ((ax×List (List UInt8)×List bB×List bL×List bA) ⊕ (ax×List (List UInt8)×List bB×List bL×List bA))):=
 .opt (pk n_ h.Server.bd.bF h.Server.gQ a.bn a.aX) fun r_1=>
 .ite (r_1 != 2) (.opt (dq a (ck.mk 0 0 0 0 6 0 0 0 []) {h with told:=[]}) fun r_2=>
 .ret (.inl r_2))
 (.opt (gF a.aX {h with told:=[]}) fun r_3=>
 .ite (!r_3) (.opt (dq a (ck.mk 0 0 0 0 6 0 0 0 []) {h with told:=[]}) fun r_4=>
 .ret (.inl r_4))
 (.opt (wO n_ h.Server.aA.S a.bn a.Seq a.aX a.aQ) fun r_5=>
 .opt (fD n_ r_5.1 {h with told:=[]}) fun r_6=>
 bf r_6 (fun a_7=>
 .opt (fZ a r_5.2 {a_7.1 with told:=[]}) fun r_8=>
 .ret (.inr (.inl (r_8,a_7.2.1,a_7.2.2,h.Server.aA.S.aP,h.Server.aA.S.Marks)))) fun b_9=>
 .ret (.inr (.inr ({b_9.1 with told:=[]},b_9.2.1,b_9.2.2,h.Server.aA.S.aP,h.Server.aA.S.Marks)))))
def iq:=fun a h=>(jC n_ a h).get
def pR (x:aT) (o0:Int) (o1:Int):TT Bool:=
 .ite (x.Client==o0) (.ret (x.aX==o1))
 (.ret false)
def eA:=fun x o0 o1=>(pR x o0 o1).val
def jm (s:List aT) (t7:Int) (o0:Int) (o1:Int) (v_:Int):Tree (Int ⊕ (Int ⊕ Unit)):=
 .ite (decide (v_<t7)) (.ite (cN v_ s.length) (.opt (s[v_.toNat]?) fun y_1=>
  .ite (eA y_1 o0 o1) (.ret (.inr (.inl v_)))
  (.ret (.inl (ay (v_+1))))) .fail)
 (.ret (.inr (.inr ())))
def jQ:=fun s t7 o0 o1 v_=>(jm s t7 o0 o1 v_).get
def jR:=fun s t7 o0 o1 t8=>iter (jQ s t7 o0 o1) n_ t8
def fV (s:List aT) (o0:Int) (o1:Int):Tree Int:=
 .opt (jR n_ s (s.length:Int) o0 o1 0) fun r_1=>
 bf r_1 (fun a_2=>
 .ret a_2) fun b_3=>
 .ret (-1)
def gW:=fun s o0 o1=>(fV n_ s o0 o1).get
def iO (o1:Int) (o2:Int) (v_:Int×Int×List aT):Tree ((Int×Int×List aT) ⊕ (Int×List aT)):=
 .ite (decide (v_.2.1<(v_.2.2.length:Int))) (.ite (cN v_.2.1 v_.2.2.length) (.opt (v_.2.2[v_.2.1.toNat]?) fun y_1=>
  .ite (!(eA y_1 o1 o2)) (.ite (cN v_.1 v_.2.2.length) (.opt (v_.2.2[v_.1.toNat]?) fun y_2=>
   .ret (.inl ((ay (v_.1+1)),(ay (v_.2.1+1)),(v_.2.2.set v_.1.toNat y_1)))) .fail)
  (.ret (.inl (v_.1,(ay (v_.2.1+1)),v_.2.2)))) .fail)
 (.ret (.inr (v_.1,v_.2.2)))
def jn:=fun o1 o2 v_=>(iO o1 o2 v_).get
def jo:=fun o1 o2 i j s=>iter (jn o1 o2) n_ (i,j,s)
def fJ (o1:Int) (o2:Int) (r0:List aT):Tree (List aT):=
 .opt (gW n_ r0 o1 o2) fun r_1=>
 .ite (r_1==(-1)) (.ret r0)
 (.opt (jo n_ o1 o2 r_1 (ay (r_1+1)) r0) fun r_2=>
 .ite (cN r_2.1 r_2.2.length) (.ret (eo r_2.2 0 r_2.1)) .fail)
def lz:=fun o1 o2 r0=>(fJ n_ o1 o2 r0).get
def vd (l:List aT) (aV:Int) (file:Int):Tree (List aT):=
 .opt (lz n_ aV file l) fun r_1=>
 .ret r_1
def Ag:=fun l aV file=>(vd n_ l aV file).get
def x7 (d:b9) (aV:Int) (file:Int):Tree b9:=
 .opt (Ag n_ d.bF aV file) fun r_1=>
 .ret (b9.mk r_1 d.cZ)
def oL:=fun d aV file=>(x7 n_ d aV file).get
def iE (a:bp) (h:ax):Tree ((ax×List aT×List bG) ⊕ ((ax×List aT×List bG) ⊕ ((ax×List (List UInt8)×List bB×List bL×List bA×List aT×List bG) ⊕ (ax×List (List UInt8)×List bB×List bL×List bA)))):=
 .ite (decide ((a.aQ.length:Int)>0)) (.opt (iq n_ a {h with told:=[]}) fun r_1=>
 bf r_1 (fun a_2=>
  .opt (oL n_ a_2.Server.bd a.bn a.aX) fun r_3=>
  .ret (.inr (.inl ({a_2 with Server:={a_2.Server with bd:=r_3}},a_2.Server.bd.bF,a_2.Server.bd.cZ)))) fun b_4=>
 bf b_4 (fun a_5=>
  .opt (oL n_ a_5.1.Server.bd a.bn a.aX) fun r_6=>
  .ret (.inr (.inr (.inl ({a_5.1 with Server:={a_5.1.Server with bd:=r_6}},a_5.2.1,a_5.2.2.1,a_5.2.2.2.1,a_5.2.2.2.2,a_5.1.Server.bd.bF,a_5.1.Server.bd.cZ))))) fun b_7=>
 .ret (.inr (.inr (.inr ({b_7.1 with told:=[]},b_7.2.1,b_7.2.2.1,b_7.2.2.2.1,b_7.2.2.2.2)))))
 (.opt (dq a (ck.mk 0 0 0 0 0 a.aX 0 0 []) {h with told:=[]}) fun r_8=>
 .opt (oL n_ r_8.Server.bd a.bn a.aX) fun r_9=>
 .ret (.inl ({r_8 with Server:={r_8.Server with bd:=r_9}},r_8.Server.bd.bF,r_8.Server.bd.cZ)))
def jB:=fun a h=>(iE n_ a h).get
def iF (w:bG) (o0:Int) (o1:Int):TT Bool:=
 .ite (w.aX==o0) (.ret (w.Client != o1))
 (.ret false)
def du:=fun w o0 o1=>(iF w o0 o1).val
def jO (s:List bG) (t7:Int) (o0:Int) (o1:Int) (v_:Int):Tree (Int ⊕ (Int ⊕ Unit)):=
 .ite (decide (v_<t7)) (.ite (cN v_ s.length) (.opt (s[v_.toNat]?) fun y_1=>
  .ite (du y_1 o0 o1) (.ret (.inr (.inl v_)))
  (.ret (.inl (ay (v_+1))))) .fail)
 (.ret (.inr (.inr ())))
def j6:=fun s t7 o0 o1 v_=>(jO s t7 o0 o1 v_).get
def j7:=fun s t7 o0 o1 t8=>iter (j6 s t7 o0 o1) n_ t8
def gp (s:List bG) (o0:Int) (o1:Int):Tree Int:=
 .opt (j7 n_ s (s.length:Int) o0 o1 0) fun r_1=>
 bf r_1 (fun a_2=>
 .ret a_2) fun b_3=>
 .ret (-1)
def mM:=fun s o0 o1=>(gp n_ s o0 o1).get
def fW (s:List bG) (o0:Int) (o1:Int):Tree Bool:=
 .opt (mM n_ s o0 o1) fun r_1=>
 .ret (decide (r_1≥0))
def gZ:=fun s o0 o1=>(fW n_ s o0 o1).get
def kl (aV:Int) (file:Int) (h:ax):Tree (Bool×ax):=
 .opt (pn n_ h.Server.bd.bF h.Server.gQ aV file 2) fun r_1=>
 .ite (decide ((r_1.length:Int)>0)) (.ret (true,{h with told:=[]}))
 (.opt (gZ n_ h.Server.bd.cZ file aV) fun r_2=>
 .ret (r_2,{h with told:=[]}))
def ml:=fun aV file h=>(kl n_ aV file h).get
def pG (s:aG) (o3:Int):Tree ((bA×aG) ⊕ Unit):=
 .opt (sa o3 s) fun r_1=>
 bf r_1 (fun a_2=>
 .opt (s.aP[a_2]?) fun y_3=>
 .ret (.inl ((bA.mk 0 0 o3 0),{s with aP:=(s.aP.set a_2 (bL.mk [] 0 []))}))) fun b_4=>
 .ret (.inr ())
def za:=fun s o3=>(pG s o3).get
def qQ (s:aG) (aV:Int) (seq:Int) (o0:Int):Tree (aG×bA):=
 .opt (za s o0) fun r_1=>
 bf r_1 (fun a_2=>
 .opt (pf a_2.2.Marks aV {a_2.1 with Seq:=seq}) fun r_3=>
 .ret ({a_2.2 with Marks:=r_3},{a_2.1 with Seq:=seq})) fun b_4=>
 .opt (pf s.Marks aV (bA.mk seq 2 0 0)) fun r_5=>
 .ret ({s with Marks:=r_5},(bA.mk seq 2 0 0))
def A6:=fun s aV seq o0=>(qQ s aV seq o0).get
def uz (s:aG) (aV:Int) (seq:Int) (n:Int):Tree (aG×bA):=
 .opt (A6 s aV seq n) fun r_1=>
 .ret (r_1.1,r_1.2)
def zG:=fun s aV seq n=>(uz s aV seq n).get
def mo (a:bp) (h:ax):Tree (ax ⊕ ((ax×List (List UInt8)×List bB×List bL×List bA×List aT×List bG) ⊕ (ax×List (List UInt8)×List bB×List bL×List bA))):=
 .opt (ml n_ a.bn a.aX {h with told:=[]}) fun r_1=>
 .ite r_1.1 (.opt (dq a (ck.mk 0 0 0 0 4 0 0 0 []) {r_1.2 with told:=[]}) fun r_2=>
 .ret (.inl r_2))
 (.opt (zG r_1.2.Server.aA.S a.bn a.Seq a.aX) fun r_3=>
 .opt (fD n_ r_3.1 {r_1.2 with told:=[]}) fun r_4=>
 bf r_4 (fun a_5=>
 .opt (oL n_ a_5.1.Server.bd a.bn a.aX) fun r_6=>
 .opt (qC n_ r_6.cZ a.bn) fun r_7=>
 .opt (fZ a r_3.2 (ax.mk {a_5.1.Server with bd:={r_6 with cZ:=r_7}} [])) fun r_8=>
 .ret (.inr (.inl (r_8,a_5.2.1,a_5.2.2,r_1.2.Server.aA.S.aP,r_1.2.Server.aA.S.Marks,a_5.1.Server.bd.bF,a_5.1.Server.bd.cZ)))) fun b_9=>
 .ret (.inr (.inr ({b_9.1 with told:=[]},b_9.2.1,b_9.2.2,r_1.2.Server.aA.S.aP,r_1.2.Server.aA.S.Marks))))
def ou:=fun a h=>(mo n_ a h).get
def kk (a:bp) (h:ax):Tree (ax ⊕ (ax ⊕ (ax ⊕ (ax ⊕ ((ax×List aT×List bG) ⊕ ((ax×List aT×List bG) ⊕ ((ax×List aT×List bG) ⊕ ((ax×List aT×List bG) ⊕ ((ax×List aT×List bG) ⊕ ((ax×List (List UInt8)×List bB×List bL×List bA) ⊕ ((ax×List (List UInt8)×List bB×List bL×List bA) ⊕ ((ax×List (List UInt8)×List bB×List bL×List bA) ⊕ ((ax×List (List UInt8)×List bB×List bL×List bA) ⊕ ((ax×List (List UInt8)×List bB×List bL×List bA×List aT×List bG) ⊕ (ax×List (List UInt8)×List bB×List bL×List bA×List aT×List bG))))))))))))))):=
 .ite (decide (h.Server.gQ<h.Server.l6)) (.opt (dq a (ck.mk 0 0 0 0 7 0 0 0 []) {h with told:=[]}) fun r_1=>
 .ret (.inr (.inl r_1)))
 (.ite (a.Kind==1) (.opt (ni n_ a {h with told:=[]}) fun r_2=>
 bf r_2 (fun a_3=>
  .ret (.inr (.inr (.inr (.inr (.inr (.inr (.inr (.inr (.inr (.inr (.inr (.inr (.inl (a_3.1,a_3.2.1,a_3.2.2.1,a_3.2.2.2.1,a_3.2.2.2.2))))))))))))))) fun b_4=>
 .ret (.inr (.inr (.inr (.inr (.inr (.inr (.inr (.inr (.inr (.inr (.inl ((ax.mk {b_4.1.Server with Live:=false} []),b_4.2.1,b_4.2.2.1,b_4.2.2.2.1,b_4.2.2.2.2)))))))))))))
 (.ite (a.Kind==2) (.opt (nj n_ a {h with told:=[]}) fun r_5=>
 bf r_5 (fun a_6=>
  .ret (.inr (.inr (.inr (.inl a_6))))) fun b_7=>
 bf b_7 (fun a_8=>
  .ret (.inr (.inr (.inr (.inr (.inl (a_8.1,a_8.2.1,a_8.2.2))))))) fun b_9=>
 bf b_9 (fun a_10=>
  .ret (.inr (.inr (.inr (.inr (.inr (.inr (.inr (.inl (a_10.1,a_10.2.1,a_10.2.2)))))))))) fun b_11=>
 .ret (.inr (.inr (.inr (.inr (.inr (.inr (.inr (.inr (.inl (b_11.1,b_11.2.1,b_11.2.2)))))))))))
 (.ite (a.Kind==3) (.opt (iq n_ a {h with told:=[]}) fun r_12=>
 bf r_12 (fun a_13=>
  .ret (.inr (.inr (.inr (.inl a_13))))) fun b_14=>
 bf b_14 (fun a_15=>
  .ret (.inr (.inr (.inr (.inr (.inr (.inr (.inr (.inr (.inr (.inr (.inr (.inr (.inl (a_15.1,a_15.2.1,a_15.2.2.1,a_15.2.2.2.1,a_15.2.2.2.2))))))))))))))) fun b_16=>
 .ret (.inr (.inr (.inr (.inr (.inr (.inr (.inr (.inr (.inr (.inr (.inl ((ax.mk {b_16.1.Server with Live:=false} []),b_16.2.1,b_16.2.2.1,b_16.2.2.2.1,b_16.2.2.2.2)))))))))))))
 (.ite (a.Kind==4) (.opt (jB n_ a {h with told:=[]}) fun r_17=>
 bf r_17 (fun a_18=>
  .ret (.inr (.inr (.inr (.inr (.inr (.inl (a_18.1,a_18.2.1,a_18.2.2)))))))) fun b_19=>
 bf b_19 (fun a_20=>
  .ret (.inr (.inr (.inr (.inr (.inr (.inr (.inl (a_20.1,a_20.2.1,a_20.2.2))))))))) fun b_21=>
 bf b_21 (fun a_22=>
  .ret (.inr (.inr (.inr (.inr (.inr (.inr (.inr (.inr (.inr (.inr (.inr (.inr (.inr (.inr (a_22.1,a_22.2.1,a_22.2.2.1,a_22.2.2.2.1,a_22.2.2.2.2.1,a_22.2.2.2.2.2.1,a_22.2.2.2.2.2.2)))))))))))))))) fun b_23=>
 .ret (.inr (.inr (.inr (.inr (.inr (.inr (.inr (.inr (.inr (.inr (.inr (.inl ((ax.mk {b_23.1.Server with Live:=false} []),b_23.2.1,b_23.2.2.1,b_23.2.2.2.1,b_23.2.2.2.2))))))))))))))
 (.ite (a.Kind==5) (.opt (ou n_ a {h with told:=[]}) fun r_24=>
 bf r_24 (fun a_25=>
  .ret (.inr (.inr (.inl a_25)))) fun b_26=>
 bf b_26 (fun a_27=>
  .ret (.inr (.inr (.inr (.inr (.inr (.inr (.inr (.inr (.inr (.inr (.inr (.inr (.inr (.inl (a_27.1,a_27.2.1,a_27.2.2.1,a_27.2.2.2.1,a_27.2.2.2.2.1,a_27.2.2.2.2.2.1,a_27.2.2.2.2.2.2)))))))))))))))) fun b_28=>
 .ret (.inr (.inr (.inr (.inr (.inr (.inr (.inr (.inr (.inr (.inl ((ax.mk {b_28.1.Server with Live:=false} []),b_28.2.1,b_28.2.2.1,b_28.2.2.2.1,b_28.2.2.2.2))))))))))))
 (.ret (.inl ({h with told:=[]}))))))))
def ja:=fun a h=>(kk n_ a h).get
def qZ (s:aI) (b:List UInt8):Tree (aI×List ck):=
 .ite (!s.Live) (.ret ((gz s).Server,[]))
 (.opt (xr n_ b) fun r_1=>
 .ite (!r_1.2) (.ret ({(gz s).Server with DZ:=(ew (ay ((gz s).Server.DZ+1)) 1073741824)},[]))
 (.opt (zL s.aA.S.aS s.Seen s.Told s.aA.S.Marks r_1.1) fun r_2=>
 .ite (r_2.1==1) (.ret ((gz s).Server,[(ck.mk 3 r_1.1.bn s.aA.S.aS 0 0 0 0 0 [])]))
 (.ite (r_2.1==3) (.ret ((gz s).Server,[r_2.2]))
 (.ite (r_2.1==4) (.ite (cN (ay (r_1.1.bn-1)) (gz s).Server.Seen.length) (.opt ((gz s).Server.Seen[(ay (r_1.1.bn-1)).toNat]?) fun y_3=>
  .opt (ja n_ r_1.1 (ax.mk {(gz s).Server with Seen:=((gz s).Server.Seen.set (ay (r_1.1.bn-1)).toNat r_1.1.Seq)} [])) fun r_4=>
  bf r_4 (fun a_5=>
  .ret (a_5.Server,[])) fun b_6=>
  bf b_6 (fun a_7=>
  .ret (a_7.Server,a_7.told)) fun b_8=>
  bf b_8 (fun a_9=>
  .ret (a_9.Server,a_9.told)) fun b_10=>
  bf b_10 (fun a_11=>
  .ret (a_11.Server,a_11.told)) fun b_12=>
  bf b_12 (fun a_13=>
  .ret (a_13.1.Server,a_13.1.told)) fun b_14=>
  bf b_14 (fun a_15=>
  .ret (a_15.1.Server,a_15.1.told)) fun b_16=>
  bf b_16 (fun a_17=>
  .ret (a_17.1.Server,a_17.1.told)) fun b_18=>
  bf b_18 (fun a_19=>
  .ret (a_19.1.Server,a_19.1.told)) fun b_20=>
  bf b_20 (fun a_21=>
  .ret (a_21.1.Server,a_21.1.told)) fun b_22=>
  bf b_22 (fun a_23=>
  .ret (a_23.1.Server,[])) fun b_24=>
  bf b_24 (fun a_25=>
  .ret (a_25.1.Server,[])) fun b_26=>
  bf b_26 (fun a_27=>
  .ret (a_27.1.Server,[])) fun b_28=>
  bf b_28 (fun a_29=>
  .ret (a_29.1.Server,a_29.1.told)) fun b_30=>
  bf b_30 (fun a_31=>
  .ret (a_31.1.Server,a_31.1.told)) fun b_32=>
  .ret (b_32.1.Server,b_32.1.told)) .fail)
 (.ret ((gz s).Server,[]))))))
def kO:=fun s b=>(qZ n_ s b).get
def mA (i:Int) (w:bc):Tree ((List UInt8×bc×List (List UInt8)×List bB) ⊕ (bc×List (List UInt8)×List bB)):=
 .opt (fb w.d (fC w.d i).2 w) fun r_1=>
 bf r_1 (fun a_2=>
 .ret (.inl ((fC w.d i).1,a_2,w.d.aU,w.d.bC))) fun b_3=>
 .ret (.inr (b_3,w.d.aU,w.d.bC))
def oF:=fun i w=>(mA i w).get
def gn (c:UInt8) (v_:List UInt8):Tree ((List UInt8) ⊕ (List UInt8)):=
 .ite (decide ((v_.length:Int)>0)) (.ite (cN (ay ((v_.length:Int)-1)) v_.length) (.opt (v_[(ay ((v_.length:Int)-1)).toNat]?) fun y_1=>
  .ite ((i8 y_1)==(i8 c)) (.ite (kJ 0 (ay ((v_.length:Int)-1)) v_.length) (.ret (.inl (eo v_ 0 (ay ((v_.length:Int)-1))))) .fail)
  (.ret (.inr v_))) .fail)
 (.ret (.inr v_))
def gS:=fun c v_=>(gn c v_).get
def lP:=fun c s=>iter (gS c) n_ s
def iz (s:List UInt8) (c:UInt8):Tree (List UInt8):=
 .opt (lP n_ c s) fun r_1=>
 .ret r_1
def jw:=fun s c=>(iz n_ s c).get
def lQ (c:UInt8) (v_:List UInt8):Tree ((List UInt8) ⊕ (List UInt8)):=
 .ite (decide ((v_.length:Int)>0)) (.ite (cN 0 v_.length) (.opt (v_[0]?) fun y_1=>
  .ite ((i8 y_1)==(i8 c)) (.ite (kJ 1 (v_.length:Int) v_.length) (.ret (.inl (eo v_ 1 (v_.length:Int)))) .fail)
  (.ret (.inr v_))) .fail)
 (.ret (.inr v_))
def tG:=fun c v_=>(lQ c v_).get
def mL:=fun c s=>iter (tG c) n_ s
def iU (s:List UInt8) (c:UInt8):Tree (List UInt8):=
 .opt (mL n_ c s) fun r_1=>
 .ret r_1
def j5:=fun s c=>(iU n_ s c).get
def qM (s:List UInt8):Tree (List UInt8):=
 .ite (s==[]) (.ret s)
 (.opt (jw n_ s 0) fun r_1=>
 .opt (j5 n_ r_1 0) fun r_2=>
 .ret r_2)
def uo:=fun s=>(qM n_ s).get
def rz (home:Int) (s:List UInt8) (n:Int) (t44:Int) (o0:aN) (r1:List UInt8) (v_:Int×Int×List Int):Tree ((Int×Int×List Int) ⊕ ((List Int) ⊕ (List Int))):=
 .ite (decide (v_.2.1<t44)) (.ite (cN v_.2.1 r1.length) (.opt (r1[v_.2.1.toNat]?) fun y_1=>
  .ite (decide ((ay (i8 y_1))≤v_.1)) (.ret (.inr (.inl v_.2.2)))
  (.ite (decide ((ay (i8 y_1))≥home)) (.ret (.inr (.inl v_.2.2)))
  (.ite (decide ((v_.2.2.length+1)≤dK)) (.ret (.inl ((ay (i8 y_1)),(ay (v_.2.1+1)),(v_.2.2++[(ay (i8 y_1))])))) .fail))) .fail)
 (.ret (.inr (.inr v_.2.2)))
def s5:=fun home s n t44 o0 r1 v_=>(rz home s n t44 o0 r1 v_).get
def zl:=fun home s n t44 o0 r1 last t45 l=>iter (s5 home s n t44 o0 r1) n_ (last,t45,l)
def qs (d:aN) (home:Int) (s:List UInt8):Tree (List Int×Bool):=
 .ite (cN 0 s.length) (.opt (s[0]?) fun y_1=>
 .ite ((i8 y_1) != 1) (.ret ([],false))
 (.ite (cN 31 s.length) (.opt (s[31]?) fun y_2=>
  .ite ((i8 y_2) != 1) (.ret ([],false))
  (.ite (cN 1 s.length) (.opt (s[1]?) fun y_3=>
  .ite (decide ((ay (i8 y_3))<1)) (.ret ([],false))
  (.ite (decide ((ay (i8 y_3))>16)) (.ret ([],false))
  (.ite (decide ((ay (home+(ay (i8 y_3))))≥(d.aU.length:Int))) (.ret ([],false))
  (.ite (kJ 2 (ay (2+(ay (i8 y_3)))) s.length) (.opt (zl n_ home s (ay (i8 y_3)) ((eo s 2 (ay (2+(ay (i8 y_3))))).length:Int) d (eo s 2 (ay (2+(ay (i8 y_3))))) (-1) 0 []) fun r_4=>
   bf r_4 (fun a_5=>
   .ret ([],false)) fun b_6=>
   .ite (kJ (ay (2+(ay (i8 y_3)))) 31 s.length) (.opt (uo n_ (eo s (ay (2+(ay (i8 y_3)))) 31)) fun r_7=>
   .ret (b_6,(r_7==[]))) .fail) .fail)))) .fail)) .fail)) .fail
def rA:=fun d home s=>(qs n_ d home s).get
def kz (i:Int) (w:bc):Tree ((List UInt8×bc) ⊕ bc):=
 .opt (fb w.d (fC w.d i).2 w) fun r_1=>
 bf r_1 (fun a_2=>
 .ret (.inl ((fC w.d i).1,a_2))) fun b_3=>
 .ret (.inr b_3)
def mB:=fun i w=>(kz i w).get
def oV (home:Int) (t53:List Int) (t54:Int) (o0:aN) (ok:Bool) (r4:List (List UInt8)) (r5:List bB) (v_:Int×aN×bc):Tree ((Int×aN×bc) ⊕ ((aN×bc) ⊕ (aN×bc))):=
 .ite (decide (v_.1<t54)) (.ite (cN v_.1 t53.length) (.opt (t53[v_.1.toNat]?) fun y_1=>
  .opt (mB (ay ((ay (home+1))+v_.1)) v_.2.2) fun r_2=>
  bf r_2 (fun a_3=>
  .opt (eU y_1 a_3.1 a_3.2) fun r_4=>
  bf r_4 (fun a_5=>
   .ret (.inl ((ay (v_.1+1)),{v_.2.1 with aU:=[],bC:=[]},a_5))) fun b_6=>
  .ret (.inr (.inl ({v_.2.1 with aU:=[],bC:=[]},b_6)))) fun b_7=>
  .ret (.inr (.inl ({v_.2.1 with aU:=[],bC:=[]},b_7)))) .fail)
 (.ret (.inr (.inr ({v_.2.1 with aU:=[],bC:=[]},v_.2.2))))
def qt:=fun home t53 t54 o0 ok r4 r5 v_=>(oV home t53 t54 o0 ok r4 r5 v_).get
def BG:=fun home t53 t54 o0 ok r4 r5 t55 x w=>iter (qt home t53 t54 o0 ok r4 r5) n_ (t55,x,w)
def sw (d:aN) (home:Int):Tree (aN×Bool):=
 .opt (oF home (bc.mk d)) fun r_1=>
 bf r_1 (fun a_2=>
 .ite ((a_2.1.length:Int) != 32) (.ret (a_2.2.1.d,false))
 (.opt (rA n_ d home a_2.1) fun r_3=>
 .ite (!r_3.2) (.ret (a_2.2.1.d,false))
 (.opt (BG n_ home r_3.1 (r_3.1.length:Int) d false a_2.2.2.1 a_2.2.2.2 0 (aN.mk [] [] 0 false) a_2.2.1) fun r_4=>
 bf r_4 (fun a_5=>
  .ret (a_5.2.d,false)) fun b_6=>
 .opt (eN n_ b_6.2) fun r_7=>
 bf r_7 (fun a_8=>
  .ret (a_8.d,true)) fun b_9=>
 .ret (b_9.d,false)))) fun b_10=>
 .ret (b_10.1.d,false)
def kY:=fun d home=>(sw n_ d home).get
def m7 (t6:Int) (d:aN) (v_:Int×List (List UInt8)):Tree ((Int×List (List UInt8)) ⊕ ((List (List UInt8)) ⊕ (List (List UInt8)))):=
 .ite (decide (v_.1<t6)) (.ite (!(fC d v_.1).2) (.ret (.inr (.inl v_.2)))
 (.ite (decide ((v_.2.length+1)≤dK)) (.ret (.inl ((ay (v_.1+1)),(v_.2++[(fC d v_.1).1])))) .fail))
 (.ret (.inr (.inr v_.2)))
def oi:=fun t6 d v_=>(m7 t6 d v_).get
def tH:=fun t6 d t7 l=>iter (oi t6 d) n_ (t7,l)
def pC (d:aN):Tree ((List (List UInt8)) ⊕ Unit):=
 .opt (qN n_) fun r_1=>
 .opt (tH n_ r_1 d 0 []) fun r_2=>
 bf r_2 (fun a_3=>
 .ret (.inr ())) fun b_4=>
 .ret (.inl b_4)
def sK:=fun d=>(pC n_ d).get
def mC (n:Int) (r:bH):Tree ((Int×bH×List UInt8) ⊕ Unit):=
 .opt (ub n_ r.b n) fun r_1=>
 .ite (!r_1.2) (.ret (.inr ()))
 (.ite (kJ n (r.b.length:Int) r.b.length) (.ret (.inl (r_1.1,(bH.mk (eo r.b n (r.b.length:Int))),r.b))) .fail)
def oH:=fun n r=>(mC n_ n r).get
def kE (n:Int) (r:bH):Tree ((Int×bH) ⊕ Unit):=
 .opt (ub n_ r.b n) fun r_1=>
 .ite (!r_1.2) (.ret (.inr ()))
 (.ite (kJ n (r.b.length:Int) r.b.length) (.ret (.inl (r_1.1,(bH.mk (eo r.b n (r.b.length:Int)))))) .fail)
def db:=fun n r=>(kE n_ n r).get
def lJ (n:Int) (r:bH):Tree ((List UInt8×bH) ⊕ Unit):=
 .opt (oZ r.b) fun r_1=>
 .ite (!r_1.2.2) (.ret (.inr ()))
 (.ite (decide (r_1.2.1>n)) (.ret (.inr ()))
 (.ite (decide ((r.b.length:Int)<n)) (.ret (.inr ()))
 (.ite (kJ n (r.b.length:Int) r.b.length) (.ret (.inl (r_1.1,(bH.mk (eo r.b n (r.b.length:Int)))))) .fail)))
def fw:=fun n r=>(lJ n r).get
def jI (r1:List UInt8) (v_:Int×bH×aG):Tree ((Int×bH×aG) ⊕ ((bH×aG) ⊕ (bH×aG))):=
 .ite (decide (v_.1<3)) (.opt (db n_ 4 v_.2.1) fun r_1=>
 bf r_1 (fun a_2=>
  .opt (db n_ 1 a_2.2) fun r_3=>
  bf r_3 (fun a_4=>
  .opt (db n_ 1 a_4.2) fun r_5=>
  bf r_5 (fun a_6=>
   .opt (db n_ 4 a_6.2) fun r_7=>
   bf r_7 (fun a_8=>
   .ite (decide ((v_.2.2.Marks.length+1)≤dK)) (.ret (.inl ((ay (v_.1+1)),a_8.2,(aG.mk [] (v_.2.2.Marks++[(bA.mk a_2.1 a_4.1 a_6.1 a_8.1)]) v_.2.2.aS)))) .fail) fun b_9=>
   .ret (.inr (.inl (a_6.2,{v_.2.2 with aP:=[]})))) fun b_10=>
  .ret (.inr (.inl (a_4.2,{v_.2.2 with aP:=[]})))) fun b_11=>
  .ret (.inr (.inl (a_2.2,{v_.2.2 with aP:=[]})))) fun b_12=>
 .ret (.inr (.inl (v_.2.1,{v_.2.2 with aP:=[]}))))
 (.ret (.inr (.inr (v_.2.1,{v_.2.2 with aP:=[]}))))
def kD:=fun r1 v_=>(jI n_ r1 v_).get
def pt:=fun r1 t7 r s=>iter (kD n_ r1) n_ (t7,r,s)
def jH (r1:List UInt8) (v_:Int×bH×aG):Tree ((Int×bH×aG) ⊕ ((bH×aG) ⊕ ((bH×aG×bL) ⊕ (bH×aG)))):=
 .ite (decide (v_.1<6)) (.opt (fw 9 v_.2.1) fun r_1=>
 bf r_1 (fun a_2=>
  .opt (db n_ 4 a_2.2) fun r_3=>
  bf r_3 (fun a_4=>
  .opt (fw 25 a_4.2) fun r_5=>
  bf r_5 (fun a_6=>
   .ite (decide ((v_.2.2.aP.length+1)≤dK)) (.ret (.inl ((ay (v_.1+1)),a_6.2,{v_.2.2 with aP:=(v_.2.2.aP++[(bL.mk a_2.1 a_4.1 a_6.1)])}))) .fail) fun b_7=>
  .ret (.inr (.inr (.inl (a_4.2,v_.2.2,(bL.mk a_2.1 a_4.1 [])))))) fun b_8=>
  .ret (.inr (.inl (a_2.2,v_.2.2)))) fun b_9=>
 .ret (.inr (.inl (v_.2.1,v_.2.2))))
 (.ret (.inr (.inr (.inr (v_.2.1,v_.2.2)))))
def kC:=fun r1 v_=>(jH n_ r1 v_).get
def pr:=fun r1 t24 r s=>iter (kC n_ r1) n_ (t24,r,s)
def lK (r:bH):Tree ((aG×bH×List UInt8) ⊕ (Unit ⊕ (bH×List UInt8))):=
 .opt (oH n_ 4 r) fun r_1=>
 bf r_1 (fun a_2=>
 .opt (pt n_ a_2.2.2 0 a_2.2.1 (aG.mk [] [] a_2.1)) fun r_3=>
 bf r_3 (fun a_4=>
  .ret (.inr (.inr (a_4.1,a_2.2.2)))) fun b_5=>
 .opt (pr n_ a_2.2.2 0 b_5.1 {b_5.2 with aP:=[]}) fun r_6=>
 bf r_6 (fun a_7=>
  .ret (.inr (.inr (a_7.1,a_2.2.2)))) fun b_8=>
 bf b_8 (fun a_9=>
  .ret (.inr (.inr (a_9.1,a_2.2.2)))) fun b_10=>
 .ret (.inl (b_10.2,b_10.1,a_2.2.2))) fun b_11=>
 .ret (.inr (.inl ()))
def nG:=fun r=>(lK n_ r).get
def iD (s1:List (List UInt8)) (s2:List (List UInt8)) (t12:Int) (v_:Int):Tree (Int ⊕ (Unit ⊕ Unit)):=
 .ite (decide (v_<t12)) (.ite (cN v_ s1.length) (.opt (s1[v_.toNat]?) fun y_1=>
  .ite (cN v_ s2.length) (.opt (s2[v_.toNat]?) fun y_2=>
  .ite (!(y_1==y_2)) (.ret (.inr (.inl ())))
  (.ret (.inl (ay (v_+1))))) .fail) .fail)
 (.ret (.inr (.inr ())))
def iZ:=fun s1 s2 t12 v_=>(iD s1 s2 t12 v_).get
def na:=fun s1 s2 t12 t13=>iter (iZ s1 s2 t12) n_ t13
def jy (s1:List (List UInt8)) (s2:List (List UInt8)):Tree Bool:=
 .ite ((s1.length:Int) != (s2.length:Int)) (.ret false)
 (.opt (na n_ s1 s2 (s1.length:Int) 0) fun r_1=>
 bf r_1 (fun a_2=>
 .ret false) fun b_3=>
 .ret true)
def il:=fun s1 s2=>(jy n_ s1 s2).get
def vm (l:List (List UInt8)):Tree (aG×Bool):=
 .ite (Fv l []) (.opt (nG n_ (bH.mk (BH l []))) fun r_1=>
 bf r_1 (fun a_2=>
  .opt (yB n_ a_2.1) fun r_3=>
  .ite (!r_3) (.ret ((aG.mk [] [] 0),false))
  (.opt (oI n_ a_2.1) fun r_4=>
  .opt (il n_ r_4 l) fun r_5=>
  .ite (!r_5) (.ret ((aG.mk [] [] 0),false))
  (.ret (a_2.1,true)))) fun b_6=>
 bf b_6 (fun a_7=>
  .ret ((aG.mk [] [] 0),false)) fun b_8=>
 .ret ((aG.mk [] [] 0),false)) .fail
def Al:=fun l=>(vm n_ l).get
def uq (d:aN):Tree (bV×Bool):=
 .opt (zE n_) fun r_1=>
 .ite ((d.aU.length:Int) != r_1) (.ret ((bV.mk (aN.mk [] [] 0 false) (aG.mk [] [] 0)),false))
 (.ite d.Down (.ret ((bV.mk (aN.mk [] [] 0 false) (aG.mk [] [] 0)),false))
 (.opt (qN n_) fun r_2=>
 .opt (kY n_ d r_2) fun r_3=>
 .opt (sK n_ r_3.1) fun r_4=>
 bf r_4 (fun a_5=>
 .opt (Al n_ a_5) fun r_6=>
 .ite (!r_6.2) (.ret ((bV.mk (aN.mk [] [] 0 false) (aG.mk [] [] 0)),false))
 (.ret ((bV.mk r_3.1 r_6.1),true))) fun b_7=>
 .ret ((bV.mk (aN.mk [] [] 0 false) (aG.mk [] [] 0)),false)))
def qO:=fun d=>(uq n_ d).get
def qU (s:aG):aG:=({s with aS:=(ew (ay (s.aS+1)) 1073741824)})
def yh (v:Int) (most:Int):Tree (Unit ⊕ Unit):=
 .ite (decide (v<0)) (.ret (.inr ()))
 (.ite (decide (v>most)) (.ret (.inr ()))
 (.ret (.inl ())))
def B2:=fun v most=>(yh v most).get
def B3 (term:Int) (eps:Int):Tree Int:=
 .opt (B2 term 1099511627776) fun r_1=>
 bf r_1 (fun a_2=>
 .opt (B2 eps 500) fun r_3=>
 bf r_3 (fun a_4=>
  .ite ((ay (1000-eps))==0) .fail
  (.ret (ay ((ay ((ay ((ay ((ay (term*(ay (1000+eps))))+1000))-eps))-1)).tdiv (ay (1000-eps)))))) fun b_5=>
 .ret 0) fun b_6=>
 .ret 0
def F7:=fun term eps=>(B3 term eps).get
def sP (d:aN) (now:Int):Tree (aI×Bool):=
 .opt (qO n_ d) fun r_1=>
 .ite (!r_1.2) (.ret ((aI.mk (bV.mk (aN.mk [] [] 0 false) (aG.mk [] [] 0)) (b9.mk [] []) [] [] 0 0 0 false 0),false))
 (.opt (iV n_ r_1.1 (qU r_1.1.S)) fun r_2=>
 .ite (!r_2.2) (.ret ((aI.mk (bV.mk (aN.mk [] [] 0 false) (aG.mk [] [] 0)) (b9.mk [] []) [] [] 0 0 0 false 0),false))
 (.opt (qm n_ r_2.1 now) fun r_3=>
 .opt (F7 60 100) fun r_4=>
 .ret ({r_3 with l6:=(fT now r_4)},true)))
def sb:=fun d now=>(sP n_ d now).get
def o7 (s1:List bB) (s2:List bB) (t12:Int) (v_:Int):Tree (Int ⊕ (Unit ⊕ Unit)):=
 .ite (decide (v_<t12)) (.ite (cN v_ s1.length) (.opt (s1[v_.toNat]?) fun y_1=>
  .ite (cN v_ s2.length) (.opt (s2[v_.toNat]?) fun y_2=>
  .ite (!(bB.er y_1 y_2)) (.ret (.inr (.inl ())))
  (.ret (.inl (ay (v_+1))))) .fail) .fail)
 (.ret (.inr (.inr ())))
def yV:=fun s1 s2 t12 v_=>(o7 s1 s2 t12 v_).get
def yW:=fun s1 s2 t12 t13=>iter (yV s1 s2 t12) n_ t13
def qW (s1:List bB) (s2:List bB):Tree Bool:=
 .ite ((s1.length:Int) != (s2.length:Int)) (.ret false)
 (.opt (yW n_ s1 s2 (s1.length:Int) 0) fun r_1=>
 bf r_1 (fun a_2=>
 .ret false) fun b_3=>
 .ret true)
def Cn:=fun s1 s2=>(qW n_ s1 s2).get
def w6 (a:aN) (b:aN):Tree Bool:=
 .opt (il n_ a.aU b.aU) fun r_1=>
 .ite r_1 (.opt (Cn n_ a.bC b.bC) fun r_2=>
 .ite r_2 (.ite (a.gR==b.gR) (.ret (a.Down==b.Down))
  (.ret false))
 (.ret false))
 (.ret false)
def Ig:=fun a b=>(w6 n_ a b).get
def nY (s1:List bL) (s2:List bL) (t12:Int) (v_:Int):Tree (Int ⊕ (Unit ⊕ Unit)):=
 .ite (decide (v_<t12)) (.ite (cN v_ s1.length) (.opt (s1[v_.toNat]?) fun y_1=>
  .ite (cN v_ s2.length) (.opt (s2[v_.toNat]?) fun y_2=>
  .ite (!(bL.er y_1 y_2)) (.ret (.inr (.inl ())))
  (.ret (.inl (ay (v_+1))))) .fail) .fail)
 (.ret (.inr (.inr ())))
def wW:=fun s1 s2 t12 v_=>(nY s1 s2 t12 v_).get
def wX:=fun s1 s2 t12 t13=>iter (wW s1 s2 t12) n_ t13
def qe (s1:List bL) (s2:List bL):Tree Bool:=
 .ite ((s1.length:Int) != (s2.length:Int)) (.ret false)
 (.opt (wX n_ s1 s2 (s1.length:Int) 0) fun r_1=>
 bf r_1 (fun a_2=>
 .ret false) fun b_3=>
 .ret true)
def Be:=fun s1 s2=>(qe n_ s1 s2).get
def nX (s1:List bA) (s2:List bA) (t12:Int) (v_:Int):Tree (Int ⊕ (Unit ⊕ Unit)):=
 .ite (decide (v_<t12)) (.ite (cN v_ s1.length) (.opt (s1[v_.toNat]?) fun y_1=>
  .ite (cN v_ s2.length) (.opt (s2[v_.toNat]?) fun y_2=>
  .ite (!(bA.er y_1 y_2)) (.ret (.inr (.inl ())))
  (.ret (.inl (ay (v_+1))))) .fail) .fail)
 (.ret (.inr (.inr ())))
def wU:=fun s1 s2 t12 v_=>(nX s1 s2 t12 v_).get
def wV:=fun s1 s2 t12 t13=>iter (wU s1 s2 t12) n_ t13
def qd (s1:List bA) (s2:List bA):Tree Bool:=
 .ite ((s1.length:Int) != (s2.length:Int)) (.ret false)
 (.opt (wV n_ s1 s2 (s1.length:Int) 0) fun r_1=>
 bf r_1 (fun a_2=>
 .ret false) fun b_3=>
 .ret true)
def Bd:=fun s1 s2=>(qd n_ s1 s2).get
def A8 (a:aG) (b:aG):Tree Bool:=
 .opt (Be n_ a.aP b.aP) fun r_1=>
 .ite r_1 (.opt (Bd n_ a.Marks b.Marks) fun r_2=>
 .ite r_2 (.ret (a.aS==b.aS))
 (.ret false))
 (.ret false)
def LI:=fun a b=>(A8 n_ a b).get
def nc (s1:List aT) (s2:List aT) (t12:Int) (v_:Int):Tree (Int ⊕ (Unit ⊕ Unit)):=
 .ite (decide (v_<t12)) (.ite (cN v_ s1.length) (.opt (s1[v_.toNat]?) fun y_1=>
  .ite (cN v_ s2.length) (.opt (s2[v_.toNat]?) fun y_2=>
  .ite (!(aT.er y_1 y_2)) (.ret (.inr (.inl ())))
  (.ret (.inl (ay (v_+1))))) .fail) .fail)
 (.ret (.inr (.inr ())))
def wy:=fun s1 s2 t12 v_=>(nc s1 s2 t12 v_).get
def wz:=fun s1 s2 t12 t13=>iter (wy s1 s2 t12) n_ t13
def o8 (s1:List aT) (s2:List aT):Tree Bool:=
 .ite ((s1.length:Int) != (s2.length:Int)) (.ret false)
 (.opt (wz n_ s1 s2 (s1.length:Int) 0) fun r_1=>
 bf r_1 (fun a_2=>
 .ret false) fun b_3=>
 .ret true)
def zH:=fun s1 s2=>(o8 n_ s1 s2).get
def nV (s1:List bG) (s2:List bG) (t12:Int) (v_:Int):Tree (Int ⊕ (Unit ⊕ Unit)):=
 .ite (decide (v_<t12)) (.ite (cN v_ s1.length) (.opt (s1[v_.toNat]?) fun y_1=>
  .ite (cN v_ s2.length) (.opt (s2[v_.toNat]?) fun y_2=>
  .ite (!(bG.er y_1 y_2)) (.ret (.inr (.inl ())))
  (.ret (.inl (ay (v_+1))))) .fail) .fail)
 (.ret (.inr (.inr ())))
def wQ:=fun s1 s2 t12 v_=>(nV s1 s2 t12 v_).get
def wR:=fun s1 s2 t12 t13=>iter (wQ s1 s2 t12) n_ t13
def qb (s1:List bG) (s2:List bG):Tree Bool:=
 .ite ((s1.length:Int) != (s2.length:Int)) (.ret false)
 (.opt (wR n_ s1 s2 (s1.length:Int) 0) fun r_1=>
 bf r_1 (fun a_2=>
 .ret false) fun b_3=>
 .ret true)
def Bb:=fun s1 s2=>(qb n_ s1 s2).get
def o6 (s1:List Int) (s2:List Int) (t12:Int) (v_:Int):Tree (Int ⊕ (Unit ⊕ Unit)):=
 .ite (decide (v_<t12)) (.ite (cN v_ s1.length) (.opt (s1[v_.toNat]?) fun y_1=>
  .ite (cN v_ s2.length) (.opt (s2[v_.toNat]?) fun y_2=>
  .ite (y_1 != y_2) (.ret (.inr (.inl ())))
  (.ret (.inl (ay (v_+1))))) .fail) .fail)
 (.ret (.inr (.inr ())))
def yT:=fun s1 s2 t12 v_=>(o6 s1 s2 t12 v_).get
def yU:=fun s1 s2 t12 t13=>iter (yT s1 s2 t12) n_ t13
def qV (s1:List Int) (s2:List Int):Tree Bool:=
 .ite ((s1.length:Int) != (s2.length:Int)) (.ret false)
 (.opt (yU n_ s1 s2 (s1.length:Int) 0) fun r_1=>
 bf r_1 (fun a_2=>
 .ret false) fun b_3=>
 .ret true)
def Cm:=fun s1 s2=>(qV n_ s1 s2).get
def nW (s1:List ck) (s2:List ck) (t12:Int) (v_:Int):Tree (Int ⊕ (Unit ⊕ Unit)):=
 .ite (decide (v_<t12)) (.ite (cN v_ s1.length) (.opt (s1[v_.toNat]?) fun y_1=>
  .ite (cN v_ s2.length) (.opt (s2[v_.toNat]?) fun y_2=>
  .ite (!(ck.er y_1 y_2)) (.ret (.inr (.inl ())))
  (.ret (.inl (ay (v_+1))))) .fail) .fail)
 (.ret (.inr (.inr ())))
def wS:=fun s1 s2 t12 v_=>(nW s1 s2 t12 v_).get
def wT:=fun s1 s2 t12 t13=>iter (wS s1 s2 t12) n_ t13
def qc (s1:List ck) (s2:List ck):Tree Bool:=
 .ite ((s1.length:Int) != (s2.length:Int)) (.ret false)
 (.opt (wT n_ s1 s2 (s1.length:Int) 0) fun r_1=>
 bf r_1 (fun a_2=>
 .ret false) fun b_3=>
 .ret true)
def Bc:=fun s1 s2=>(qc n_ s1 s2).get
def zc (a:aI) (b:aI):Tree Bool:=
 .opt (Ig n_ a.aA.D b.aA.D) fun r_1=>
 .ite (!r_1) (.ret false)
 (.opt (LI n_ a.aA.S b.aA.S) fun r_2=>
 .ite (!r_2) (.ret false)
 (.opt (zH n_ a.bd.bF b.bd.bF) fun r_3=>
 .ite (!r_3) (.ret false)
 (.opt (Bb n_ a.bd.cZ b.bd.cZ) fun r_4=>
 .ite (!r_4) (.ret false)
 (.opt (Cm n_ a.Seen b.Seen) fun r_5=>
 .ite (!r_5) (.ret false)
 (.opt (Bc n_ a.Told b.Told) fun r_6=>
 .ite (!r_6) (.ret false)
 (.ite (a.gQ==b.gQ) (.ite (a.l6==b.l6) (.ite (a.DZ==b.DZ) (.ite (a.Live==b.Live) (.ret (a.gP==b.gP))
  (.ret false))
  (.ret false))
 (.ret false))
 (.ret false)))))))
def JF:=fun a b=>(zc n_ a b).get
def zk:Tree Bool:=
 .opt (uC n_ 0) fun r_1=>
 .opt (a8 n_ (bp.mk 1 1 0 1 [97] 0 0 [])) fun r_2=>
 .opt (kO n_ r_1 r_2) fun r_3=>
 .opt (a8 n_ (bp.mk 2 2 0 1 [] 1 1 [])) fun r_4=>
 .opt (kO n_ r_3.1 r_4) fun r_5=>
 .opt (kO n_ r_5.1 []) fun r_6=>
 .opt (sb n_ r_3.1.aA.D 9) fun r_7=>
 .ite ((r_3.2.length:Int)==1) (.ite (cN 0 r_3.2.length) (.opt (r_3.2[0]?) fun y_8=>
  .ite (y_8.aX==1) (.ite (cN 0 r_3.2.length) (.opt (r_3.2[0]?) fun y_9=>
   .ite (y_9.Seq==1) (.ite ((r_5.2.length:Int)==1) (.ite (cN 0 r_5.2.length) (.opt (r_5.2[0]?) fun y_10=>
    .ite (y_10.Mode==1) (.ite (r_6.1.DZ==1) (.ite ((r_6.2.length:Int)==0) (.ite r_7.2 (.ite (r_7.1.aA.S.aS==1) (.ite (r_7.1.l6==83) (.ite r_7.1.Live (.opt (JF n_ r_5.1 r_5.1) fun r_11=>
        .ret r_11)
       (.ret false))
       (.ret false))
      (.ret false))
      (.ret false))
     (.ret false))
     (.ret false))
    (.ret false)) .fail)
   (.ret false))
   (.ret false)) .fail)
  (.ret false)) .fail)
 (.ret false)
def DC:=(zk n_).get
def CC (l:List UInt8):bt:=(bt.mk l 0)
def oz (m:Int) (p:bt):Tree (Int×bt):=
 .ite (decide (p.n≥(p.l.length:Int))) (.ret (0,p))
 (.ite (decide (m<1)) (.ret (0,p))
 (.ite (cN (ay ((ay (p.n+1))-1)) p.l.length) (.opt (p.l[(ay ((ay (p.n+1))-1)).toNat]?) fun y_1=>
 .ite (m==0) .fail
 (.ret (((ay (i8 y_1)).tmod m),{p with n:=(ay (p.n+1))}))) .fail))
def cj:=fun m p=>(oz m p).get
def my (p:bt):Tree (aY×bt):=
 .opt (cj 10 p) fun r_1=>
 .opt (cj 6 r_1.2) fun r_2=>
 .ite (cN r_2.1 6) (.opt ([[120],[121,122],[104,101,108,108,111],[48],[97,98,0,99,100],[102,111,117,114,116,101,101,110,32,98,121,116,101,115]][r_2.1.toNat]?) fun y_3=>
 .ret ((aY.mk r_1.1 y_3),r_2.2)) .fail
def kX:=fun p=>(my p).get
def jE (v_:Int×bt×List aY):Tree ((Int×bt×List aY) ⊕ (bt×List aY)):=
 .ite (decide (v_.1>0)) (.opt (kX v_.2.1) fun r_1=>
 .ite (decide ((v_.2.2.length+1)≤dK)) (.ret (.inl ((ay (v_.1-1)),r_1.2,(v_.2.2++[r_1.1])))) .fail)
 (.ret (.inr (v_.2.1,v_.2.2)))
def ku:=fun v_=>(jE v_).get
def pg:=fun i p l=>iter (ku) n_ (i,p,l)
def lF (most:Int) (p:bt):Tree (bt×List aY):=
 .opt (cj (ay (most+1)) p) fun r_1=>
 .opt (pg n_ r_1.1 r_1.2 []) fun r_2=>
 .ret (r_2.1,r_2.2)
def dS:=fun most p=>(lF n_ most p).get
def oA (p:bt):Tree (bp×bt):=
 .opt (cj 5 p) fun r_1=>
 .opt (cj 3 r_1.2) fun r_2=>
 .opt (cj 3 r_2.2) fun r_3=>
 .opt (cj 20 r_3.2) fun r_4=>
 .ite ((ay (1+r_1.1))==1) (.opt (cj 4 r_4.2) fun r_5=>
 .ite (cN r_5.1 4) (.opt ([[97],[98],[110,111,116,101,115],[99]][r_5.1.toNat]?) fun y_6=>
  .ret ((bp.mk (ay (1+r_1.1)) (ay (1+r_2.1)) r_3.1 (ay (1+r_4.1)) y_6 0 0 []),r_5.2)) .fail)
 (.ite ((ay (1+r_1.1))==2) (.opt (cj 2 r_4.2) fun r_7=>
 .opt (cj 6 r_7.2) fun r_8=>
 .ret ((bp.mk (ay (1+r_1.1)) (ay (1+r_2.1)) r_3.1 (ay (1+r_4.1)) [] (ay (1+r_8.1)) (ay (1+r_7.1)) []),r_8.2))
 (.ite ((ay (1+r_1.1))==3) (.opt (dS n_ 4 r_4.2) fun r_9=>
 .opt (kX r_9.1) fun r_10=>
 .ite (decide ((r_9.2.length+1)≤dK)) (.opt (cj 6 r_10.2) fun r_11=>
  .ret ((bp.mk (ay (1+r_1.1)) (ay (1+r_2.1)) r_3.1 (ay (1+r_4.1)) [] (ay (1+r_11.1)) 0 (r_9.2++[r_10.1])),r_11.2)) .fail)
 (.ite ((ay (1+r_1.1))==4) (.opt (dS n_ 5 r_4.2) fun r_12=>
 .opt (cj 6 r_12.1) fun r_13=>
 .ret ((bp.mk (ay (1+r_1.1)) (ay (1+r_2.1)) r_3.1 (ay (1+r_4.1)) [] (ay (1+r_13.1)) 0 r_12.2),r_13.2))
 (.opt (cj 6 r_4.2) fun r_14=>
 .ret ((bp.mk (ay (1+r_1.1)) (ay (1+r_2.1)) r_3.1 (ay (1+r_4.1)) [] (ay (1+r_14.1)) 0 []),r_14.2)))))
def rp:=fun p=>(oA n_ p).get
def ve (s:aI) (d:List UInt8):Tree (List UInt8):=
 .ite (kJ 1 4 d.length) (.opt (rp n_ (CC (eo d 1 4))) fun r_1=>
 .opt (d[1]?) fun y_2=>
 .opt (d[2]?) fun y_3=>
 .opt (d[3]?) fun y_4=>
 .ite ((ay (1+(ay (i8 (b8 ((i8 y_3).tmod 5))))))==1) (.opt (d[3]?) fun y_5=>
  .ite (cN (i8 (b8 ((i8 y_5).tmod 3))) 3) (.opt ([[97],[98],[99]][(i8 (b8 ((i8 y_5).tmod 3))).toNat]?) fun y_6=>
  .ite ((s.Seen.length:Int)==3) (.ite (cN (ay ((ay (1+(ay (i8 (b8 ((i8 y_2).tmod 3))))))-1)) s.Seen.length) (.opt (s.Seen[(ay ((ay (1+(ay (i8 (b8 ((i8 y_2).tmod 3))))))-1)).toNat]?) fun y_7=>
   .opt (d[0]?) fun y_8=>
   .ite (cN (i8 (b8 ((i8 (b8 (qj ((i8 y_8).tdiv 8)))).tmod 7))) 7) (.opt ([1,1,1,1,0,(-1),2][(i8 (b8 ((i8 (b8 (qj ((i8 y_8).tdiv 8)))).tmod 7))).toNat]?) fun y_9=>
    .opt (d[0]?) fun y_10=>
    .ite ((i8 (b8 ((i8 y_10).tmod 32)))==31) (.opt (a8 n_ (bp.mk (ay (1+(ay (i8 (b8 ((i8 y_3).tmod 5)))))) (ay (1+(ay (i8 (b8 ((i8 y_2).tmod 3)))))) (ay (s.aA.S.aS+1)) (imax 1 (ay (y_7+y_9))) y_6 0 0 [])) fun r_11=>
    .ret r_11)
    (.opt (a8 n_ (bp.mk (ay (1+(ay (i8 (b8 ((i8 y_3).tmod 5)))))) (ay (1+(ay (i8 (b8 ((i8 y_2).tmod 3)))))) s.aA.S.aS (imax 1 (ay (y_7+y_9))) y_6 0 0 [])) fun r_12=>
    .ret r_12)) .fail) .fail)
  (.opt (d[0]?) fun y_13=>
  .ite ((i8 (b8 ((i8 y_13).tmod 32)))==31) (.opt (a8 n_ (bp.mk (ay (1+(ay (i8 (b8 ((i8 y_3).tmod 5)))))) (ay (1+(ay (i8 (b8 ((i8 y_2).tmod 3)))))) (ay (s.aA.S.aS+1)) 1 y_6 0 0 [])) fun r_14=>
   .ret r_14)
  (.opt (a8 n_ (bp.mk (ay (1+(ay (i8 (b8 ((i8 y_3).tmod 5)))))) (ay (1+(ay (i8 (b8 ((i8 y_2).tmod 3)))))) s.aA.S.aS 1 y_6 0 0 [])) fun r_15=>
  .ret r_15))) .fail)
 (.ite ((ay (1+(ay (i8 (b8 ((i8 y_3).tmod 5))))))==2) (.opt (d[3]?) fun y_16=>
  .ite ((s.Seen.length:Int)==3) (.ite (cN (ay ((ay (1+(ay (i8 (b8 ((i8 y_2).tmod 3))))))-1)) s.Seen.length) (.opt (s.Seen[(ay ((ay (1+(ay (i8 (b8 ((i8 y_2).tmod 3))))))-1)).toNat]?) fun y_17=>
   .opt (d[0]?) fun y_18=>
   .ite (cN (i8 (b8 ((i8 (b8 (qj ((i8 y_18).tdiv 8)))).tmod 7))) 7) (.opt ([1,1,1,1,0,(-1),2][(i8 (b8 ((i8 (b8 (qj ((i8 y_18).tdiv 8)))).tmod 7))).toNat]?) fun y_19=>
   .opt (d[0]?) fun y_20=>
   .ite ((i8 (b8 ((i8 y_20).tmod 32)))==31) (.opt (a8 n_ (bp.mk (ay (1+(ay (i8 (b8 ((i8 y_3).tmod 5)))))) (ay (1+(ay (i8 (b8 ((i8 y_2).tmod 3)))))) (ay (s.aA.S.aS+1)) (imax 1 (ay (y_17+y_19))) [] (ay (1+(ay (i8 (b8 ((i8 y_4).tmod 2)))))) (ay (1+(ay (i8 (b8 ((i8 (b8 (qj ((i8 y_16).tdiv 2)))).tmod 2)))))) [])) fun r_21=>
    .ret r_21)
   (.opt (a8 n_ (bp.mk (ay (1+(ay (i8 (b8 ((i8 y_3).tmod 5)))))) (ay (1+(ay (i8 (b8 ((i8 y_2).tmod 3)))))) s.aA.S.aS (imax 1 (ay (y_17+y_19))) [] (ay (1+(ay (i8 (b8 ((i8 y_4).tmod 2)))))) (ay (1+(ay (i8 (b8 ((i8 (b8 (qj ((i8 y_16).tdiv 2)))).tmod 2)))))) [])) fun r_22=>
   .ret r_22)) .fail) .fail)
  (.opt (d[0]?) fun y_23=>
  .ite ((i8 (b8 ((i8 y_23).tmod 32)))==31) (.opt (a8 n_ (bp.mk (ay (1+(ay (i8 (b8 ((i8 y_3).tmod 5)))))) (ay (1+(ay (i8 (b8 ((i8 y_2).tmod 3)))))) (ay (s.aA.S.aS+1)) 1 [] (ay (1+(ay (i8 (b8 ((i8 y_4).tmod 2)))))) (ay (1+(ay (i8 (b8 ((i8 (b8 (qj ((i8 y_16).tdiv 2)))).tmod 2)))))) [])) fun r_24=>
  .ret r_24)
  (.opt (a8 n_ (bp.mk (ay (1+(ay (i8 (b8 ((i8 y_3).tmod 5)))))) (ay (1+(ay (i8 (b8 ((i8 y_2).tmod 3)))))) s.aA.S.aS 1 [] (ay (1+(ay (i8 (b8 ((i8 y_4).tmod 2)))))) (ay (1+(ay (i8 (b8 ((i8 (b8 (qj ((i8 y_16).tdiv 2)))).tmod 2)))))) [])) fun r_25=>
  .ret r_25)))
 (.ite ((ay (1+(ay (i8 (b8 ((i8 y_3).tmod 5))))))==3) (.opt (d[3]?) fun y_26=>
  .ite ((ay (1+(ay (i8 (b8 ((i8 y_3).tmod 5))))))==4) (.opt (d[0]?) fun y_27=>
  .ite ((i8 (b8 ((i8 y_27).tmod 2)))==0) (.ite ((s.Seen.length:Int)==3) (.ite (cN (ay ((ay (1+(ay (i8 (b8 ((i8 y_2).tmod 3))))))-1)) s.Seen.length) (.opt (s.Seen[(ay ((ay (1+(ay (i8 (b8 ((i8 y_2).tmod 3))))))-1)).toNat]?) fun y_28=>
    .opt (d[0]?) fun y_29=>
    .ite (cN (i8 (b8 ((i8 (b8 (qj ((i8 y_29).tdiv 8)))).tmod 7))) 7) (.opt ([1,1,1,1,0,(-1),2][(i8 (b8 ((i8 (b8 (qj ((i8 y_29).tdiv 8)))).tmod 7))).toNat]?) fun y_30=>
    .opt (d[0]?) fun y_31=>
    .ite ((i8 (b8 ((i8 y_31).tmod 32)))==31) (.opt (a8 n_ (bp.mk (ay (1+(ay (i8 (b8 ((i8 y_3).tmod 5)))))) (ay (1+(ay (i8 (b8 ((i8 y_2).tmod 3)))))) (ay (s.aA.S.aS+1)) (imax 1 (ay (y_28+y_30))) [] (ay (1+(ay (i8 (b8 ((i8 y_4).tmod 2)))))) 0 [])) fun r_32=>
     .ret r_32)
    (.opt (a8 n_ (bp.mk (ay (1+(ay (i8 (b8 ((i8 y_3).tmod 5)))))) (ay (1+(ay (i8 (b8 ((i8 y_2).tmod 3)))))) s.aA.S.aS (imax 1 (ay (y_28+y_30))) [] (ay (1+(ay (i8 (b8 ((i8 y_4).tmod 2)))))) 0 [])) fun r_33=>
    .ret r_33)) .fail) .fail)
   (.opt (d[0]?) fun y_34=>
   .ite ((i8 (b8 ((i8 y_34).tmod 32)))==31) (.opt (a8 n_ (bp.mk (ay (1+(ay (i8 (b8 ((i8 y_3).tmod 5)))))) (ay (1+(ay (i8 (b8 ((i8 y_2).tmod 3)))))) (ay (s.aA.S.aS+1)) 1 [] (ay (1+(ay (i8 (b8 ((i8 y_4).tmod 2)))))) 0 [])) fun r_35=>
   .ret r_35)
   (.opt (a8 n_ (bp.mk (ay (1+(ay (i8 (b8 ((i8 y_3).tmod 5)))))) (ay (1+(ay (i8 (b8 ((i8 y_2).tmod 3)))))) s.aA.S.aS 1 [] (ay (1+(ay (i8 (b8 ((i8 y_4).tmod 2)))))) 0 [])) fun r_36=>
   .ret r_36)))
  (.ite ((s.Seen.length:Int)==3) (.ite (cN (ay ((ay (1+(ay (i8 (b8 ((i8 y_2).tmod 3))))))-1)) s.Seen.length) (.opt (s.Seen[(ay ((ay (1+(ay (i8 (b8 ((i8 y_2).tmod 3))))))-1)).toNat]?) fun y_37=>
   .opt (d[0]?) fun y_38=>
   .ite (cN (i8 (b8 ((i8 (b8 (qj ((i8 y_38).tdiv 8)))).tmod 7))) 7) (.opt ([1,1,1,1,0,(-1),2][(i8 (b8 ((i8 (b8 (qj ((i8 y_38).tdiv 8)))).tmod 7))).toNat]?) fun y_39=>
    .opt (d[0]?) fun y_40=>
    .ite ((i8 (b8 ((i8 y_40).tmod 32)))==31) (.opt (a8 n_ (bp.mk (ay (1+(ay (i8 (b8 ((i8 y_3).tmod 5)))))) (ay (1+(ay (i8 (b8 ((i8 y_2).tmod 3)))))) (ay (s.aA.S.aS+1)) (imax 1 (ay (y_37+y_39))) [] (ay (1+(ay (i8 (b8 ((i8 y_4).tmod 2)))))) 0 [(aY.mk (ay (i8 (b8 ((i8 y_26).tmod 9)))) [119,114])])) fun r_41=>
    .ret r_41)
    (.opt (a8 n_ (bp.mk (ay (1+(ay (i8 (b8 ((i8 y_3).tmod 5)))))) (ay (1+(ay (i8 (b8 ((i8 y_2).tmod 3)))))) s.aA.S.aS (imax 1 (ay (y_37+y_39))) [] (ay (1+(ay (i8 (b8 ((i8 y_4).tmod 2)))))) 0 [(aY.mk (ay (i8 (b8 ((i8 y_26).tmod 9)))) [119,114])])) fun r_42=>
    .ret r_42)) .fail) .fail)
  (.opt (d[0]?) fun y_43=>
  .ite ((i8 (b8 ((i8 y_43).tmod 32)))==31) (.opt (a8 n_ (bp.mk (ay (1+(ay (i8 (b8 ((i8 y_3).tmod 5)))))) (ay (1+(ay (i8 (b8 ((i8 y_2).tmod 3)))))) (ay (s.aA.S.aS+1)) 1 [] (ay (1+(ay (i8 (b8 ((i8 y_4).tmod 2)))))) 0 [(aY.mk (ay (i8 (b8 ((i8 y_26).tmod 9)))) [119,114])])) fun r_44=>
   .ret r_44)
  (.opt (a8 n_ (bp.mk (ay (1+(ay (i8 (b8 ((i8 y_3).tmod 5)))))) (ay (1+(ay (i8 (b8 ((i8 y_2).tmod 3)))))) s.aA.S.aS 1 [] (ay (1+(ay (i8 (b8 ((i8 y_4).tmod 2)))))) 0 [(aY.mk (ay (i8 (b8 ((i8 y_26).tmod 9)))) [119,114])])) fun r_45=>
  .ret r_45))))
  (.ite ((s.Seen.length:Int)==3) (.ite (cN (ay ((ay (1+(ay (i8 (b8 ((i8 y_2).tmod 3))))))-1)) s.Seen.length) (.opt (s.Seen[(ay ((ay (1+(ay (i8 (b8 ((i8 y_2).tmod 3))))))-1)).toNat]?) fun y_46=>
   .opt (d[0]?) fun y_47=>
   .ite (cN (i8 (b8 ((i8 (b8 (qj ((i8 y_47).tdiv 8)))).tmod 7))) 7) (.opt ([1,1,1,1,0,(-1),2][(i8 (b8 ((i8 (b8 (qj ((i8 y_47).tdiv 8)))).tmod 7))).toNat]?) fun y_48=>
   .opt (d[0]?) fun y_49=>
   .ite ((i8 (b8 ((i8 y_49).tmod 32)))==31) (.opt (a8 n_ (bp.mk (ay (1+(ay (i8 (b8 ((i8 y_3).tmod 5)))))) (ay (1+(ay (i8 (b8 ((i8 y_2).tmod 3)))))) (ay (s.aA.S.aS+1)) (imax 1 (ay (y_46+y_48))) [] (ay (1+(ay (i8 (b8 ((i8 y_4).tmod 2)))))) 0 [(aY.mk (ay (i8 (b8 ((i8 y_26).tmod 9)))) [119,114])])) fun r_50=>
    .ret r_50)
   (.opt (a8 n_ (bp.mk (ay (1+(ay (i8 (b8 ((i8 y_3).tmod 5)))))) (ay (1+(ay (i8 (b8 ((i8 y_2).tmod 3)))))) s.aA.S.aS (imax 1 (ay (y_46+y_48))) [] (ay (1+(ay (i8 (b8 ((i8 y_4).tmod 2)))))) 0 [(aY.mk (ay (i8 (b8 ((i8 y_26).tmod 9)))) [119,114])])) fun r_51=>
   .ret r_51)) .fail) .fail)
  (.opt (d[0]?) fun y_52=>
  .ite ((i8 (b8 ((i8 y_52).tmod 32)))==31) (.opt (a8 n_ (bp.mk (ay (1+(ay (i8 (b8 ((i8 y_3).tmod 5)))))) (ay (1+(ay (i8 (b8 ((i8 y_2).tmod 3)))))) (ay (s.aA.S.aS+1)) 1 [] (ay (1+(ay (i8 (b8 ((i8 y_4).tmod 2)))))) 0 [(aY.mk (ay (i8 (b8 ((i8 y_26).tmod 9)))) [119,114])])) fun r_53=>
  .ret r_53)
  (.opt (a8 n_ (bp.mk (ay (1+(ay (i8 (b8 ((i8 y_3).tmod 5)))))) (ay (1+(ay (i8 (b8 ((i8 y_2).tmod 3)))))) s.aA.S.aS 1 [] (ay (1+(ay (i8 (b8 ((i8 y_4).tmod 2)))))) 0 [(aY.mk (ay (i8 (b8 ((i8 y_26).tmod 9)))) [119,114])])) fun r_54=>
  .ret r_54))))
 (.ite ((ay (1+(ay (i8 (b8 ((i8 y_3).tmod 5))))))==4) (.opt (d[3]?) fun y_55=>
  .ite ((ay (1+(ay (i8 (b8 ((i8 y_3).tmod 5))))))==4) (.opt (d[0]?) fun y_56=>
  .ite ((i8 (b8 ((i8 y_56).tmod 2)))==0) (.ite ((s.Seen.length:Int)==3) (.ite (cN (ay ((ay (1+(ay (i8 (b8 ((i8 y_2).tmod 3))))))-1)) s.Seen.length) (.opt (s.Seen[(ay ((ay (1+(ay (i8 (b8 ((i8 y_2).tmod 3))))))-1)).toNat]?) fun y_57=>
    .opt (d[0]?) fun y_58=>
    .ite (cN (i8 (b8 ((i8 (b8 (qj ((i8 y_58).tdiv 8)))).tmod 7))) 7) (.opt ([1,1,1,1,0,(-1),2][(i8 (b8 ((i8 (b8 (qj ((i8 y_58).tdiv 8)))).tmod 7))).toNat]?) fun y_59=>
    .opt (d[0]?) fun y_60=>
    .ite ((i8 (b8 ((i8 y_60).tmod 32)))==31) (.opt (a8 n_ (bp.mk (ay (1+(ay (i8 (b8 ((i8 y_3).tmod 5)))))) (ay (1+(ay (i8 (b8 ((i8 y_2).tmod 3)))))) (ay (s.aA.S.aS+1)) (imax 1 (ay (y_57+y_59))) [] (ay (1+(ay (i8 (b8 ((i8 y_4).tmod 2)))))) 0 [])) fun r_61=>
     .ret r_61)
    (.opt (a8 n_ (bp.mk (ay (1+(ay (i8 (b8 ((i8 y_3).tmod 5)))))) (ay (1+(ay (i8 (b8 ((i8 y_2).tmod 3)))))) s.aA.S.aS (imax 1 (ay (y_57+y_59))) [] (ay (1+(ay (i8 (b8 ((i8 y_4).tmod 2)))))) 0 [])) fun r_62=>
    .ret r_62)) .fail) .fail)
   (.opt (d[0]?) fun y_63=>
   .ite ((i8 (b8 ((i8 y_63).tmod 32)))==31) (.opt (a8 n_ (bp.mk (ay (1+(ay (i8 (b8 ((i8 y_3).tmod 5)))))) (ay (1+(ay (i8 (b8 ((i8 y_2).tmod 3)))))) (ay (s.aA.S.aS+1)) 1 [] (ay (1+(ay (i8 (b8 ((i8 y_4).tmod 2)))))) 0 [])) fun r_64=>
   .ret r_64)
   (.opt (a8 n_ (bp.mk (ay (1+(ay (i8 (b8 ((i8 y_3).tmod 5)))))) (ay (1+(ay (i8 (b8 ((i8 y_2).tmod 3)))))) s.aA.S.aS 1 [] (ay (1+(ay (i8 (b8 ((i8 y_4).tmod 2)))))) 0 [])) fun r_65=>
   .ret r_65)))
  (.ite ((s.Seen.length:Int)==3) (.ite (cN (ay ((ay (1+(ay (i8 (b8 ((i8 y_2).tmod 3))))))-1)) s.Seen.length) (.opt (s.Seen[(ay ((ay (1+(ay (i8 (b8 ((i8 y_2).tmod 3))))))-1)).toNat]?) fun y_66=>
   .opt (d[0]?) fun y_67=>
   .ite (cN (i8 (b8 ((i8 (b8 (qj ((i8 y_67).tdiv 8)))).tmod 7))) 7) (.opt ([1,1,1,1,0,(-1),2][(i8 (b8 ((i8 (b8 (qj ((i8 y_67).tdiv 8)))).tmod 7))).toNat]?) fun y_68=>
    .opt (d[0]?) fun y_69=>
    .ite ((i8 (b8 ((i8 y_69).tmod 32)))==31) (.opt (a8 n_ (bp.mk (ay (1+(ay (i8 (b8 ((i8 y_3).tmod 5)))))) (ay (1+(ay (i8 (b8 ((i8 y_2).tmod 3)))))) (ay (s.aA.S.aS+1)) (imax 1 (ay (y_66+y_68))) [] (ay (1+(ay (i8 (b8 ((i8 y_4).tmod 2)))))) 0 [(aY.mk (ay (i8 (b8 ((i8 y_55).tmod 9)))) [119,114])])) fun r_70=>
    .ret r_70)
    (.opt (a8 n_ (bp.mk (ay (1+(ay (i8 (b8 ((i8 y_3).tmod 5)))))) (ay (1+(ay (i8 (b8 ((i8 y_2).tmod 3)))))) s.aA.S.aS (imax 1 (ay (y_66+y_68))) [] (ay (1+(ay (i8 (b8 ((i8 y_4).tmod 2)))))) 0 [(aY.mk (ay (i8 (b8 ((i8 y_55).tmod 9)))) [119,114])])) fun r_71=>
    .ret r_71)) .fail) .fail)
  (.opt (d[0]?) fun y_72=>
  .ite ((i8 (b8 ((i8 y_72).tmod 32)))==31) (.opt (a8 n_ (bp.mk (ay (1+(ay (i8 (b8 ((i8 y_3).tmod 5)))))) (ay (1+(ay (i8 (b8 ((i8 y_2).tmod 3)))))) (ay (s.aA.S.aS+1)) 1 [] (ay (1+(ay (i8 (b8 ((i8 y_4).tmod 2)))))) 0 [(aY.mk (ay (i8 (b8 ((i8 y_55).tmod 9)))) [119,114])])) fun r_73=>
   .ret r_73)
  (.opt (a8 n_ (bp.mk (ay (1+(ay (i8 (b8 ((i8 y_3).tmod 5)))))) (ay (1+(ay (i8 (b8 ((i8 y_2).tmod 3)))))) s.aA.S.aS 1 [] (ay (1+(ay (i8 (b8 ((i8 y_4).tmod 2)))))) 0 [(aY.mk (ay (i8 (b8 ((i8 y_55).tmod 9)))) [119,114])])) fun r_74=>
  .ret r_74))))
  (.ite ((s.Seen.length:Int)==3) (.ite (cN (ay ((ay (1+(ay (i8 (b8 ((i8 y_2).tmod 3))))))-1)) s.Seen.length) (.opt (s.Seen[(ay ((ay (1+(ay (i8 (b8 ((i8 y_2).tmod 3))))))-1)).toNat]?) fun y_75=>
   .opt (d[0]?) fun y_76=>
   .ite (cN (i8 (b8 ((i8 (b8 (qj ((i8 y_76).tdiv 8)))).tmod 7))) 7) (.opt ([1,1,1,1,0,(-1),2][(i8 (b8 ((i8 (b8 (qj ((i8 y_76).tdiv 8)))).tmod 7))).toNat]?) fun y_77=>
   .opt (d[0]?) fun y_78=>
   .ite ((i8 (b8 ((i8 y_78).tmod 32)))==31) (.opt (a8 n_ (bp.mk (ay (1+(ay (i8 (b8 ((i8 y_3).tmod 5)))))) (ay (1+(ay (i8 (b8 ((i8 y_2).tmod 3)))))) (ay (s.aA.S.aS+1)) (imax 1 (ay (y_75+y_77))) [] (ay (1+(ay (i8 (b8 ((i8 y_4).tmod 2)))))) 0 [(aY.mk (ay (i8 (b8 ((i8 y_55).tmod 9)))) [119,114])])) fun r_79=>
    .ret r_79)
   (.opt (a8 n_ (bp.mk (ay (1+(ay (i8 (b8 ((i8 y_3).tmod 5)))))) (ay (1+(ay (i8 (b8 ((i8 y_2).tmod 3)))))) s.aA.S.aS (imax 1 (ay (y_75+y_77))) [] (ay (1+(ay (i8 (b8 ((i8 y_4).tmod 2)))))) 0 [(aY.mk (ay (i8 (b8 ((i8 y_55).tmod 9)))) [119,114])])) fun r_80=>
   .ret r_80)) .fail) .fail)
  (.opt (d[0]?) fun y_81=>
  .ite ((i8 (b8 ((i8 y_81).tmod 32)))==31) (.opt (a8 n_ (bp.mk (ay (1+(ay (i8 (b8 ((i8 y_3).tmod 5)))))) (ay (1+(ay (i8 (b8 ((i8 y_2).tmod 3)))))) (ay (s.aA.S.aS+1)) 1 [] (ay (1+(ay (i8 (b8 ((i8 y_4).tmod 2)))))) 0 [(aY.mk (ay (i8 (b8 ((i8 y_55).tmod 9)))) [119,114])])) fun r_82=>
  .ret r_82)
  (.opt (a8 n_ (bp.mk (ay (1+(ay (i8 (b8 ((i8 y_3).tmod 5)))))) (ay (1+(ay (i8 (b8 ((i8 y_2).tmod 3)))))) s.aA.S.aS 1 [] (ay (1+(ay (i8 (b8 ((i8 y_4).tmod 2)))))) 0 [(aY.mk (ay (i8 (b8 ((i8 y_55).tmod 9)))) [119,114])])) fun r_83=>
  .ret r_83))))
 (.ite ((s.Seen.length:Int)==3) (.ite (cN (ay ((ay (1+(ay (i8 (b8 ((i8 y_2).tmod 3))))))-1)) s.Seen.length) (.opt (s.Seen[(ay ((ay (1+(ay (i8 (b8 ((i8 y_2).tmod 3))))))-1)).toNat]?) fun y_84=>
  .opt (d[0]?) fun y_85=>
  .ite (cN (i8 (b8 ((i8 (b8 (qj ((i8 y_85).tdiv 8)))).tmod 7))) 7) (.opt ([1,1,1,1,0,(-1),2][(i8 (b8 ((i8 (b8 (qj ((i8 y_85).tdiv 8)))).tmod 7))).toNat]?) fun y_86=>
   .opt (d[0]?) fun y_87=>
   .ite ((i8 (b8 ((i8 y_87).tmod 32)))==31) (.opt (a8 n_ (bp.mk (ay (1+(ay (i8 (b8 ((i8 y_3).tmod 5)))))) (ay (1+(ay (i8 (b8 ((i8 y_2).tmod 3)))))) (ay (s.aA.S.aS+1)) (imax 1 (ay (y_84+y_86))) [] (ay (1+(ay (i8 (b8 ((i8 y_4).tmod 2)))))) 0 [])) fun r_88=>
   .ret r_88)
   (.opt (a8 n_ (bp.mk (ay (1+(ay (i8 (b8 ((i8 y_3).tmod 5)))))) (ay (1+(ay (i8 (b8 ((i8 y_2).tmod 3)))))) s.aA.S.aS (imax 1 (ay (y_84+y_86))) [] (ay (1+(ay (i8 (b8 ((i8 y_4).tmod 2)))))) 0 [])) fun r_89=>
   .ret r_89)) .fail) .fail)
 (.opt (d[0]?) fun y_90=>
 .ite ((i8 (b8 ((i8 y_90).tmod 32)))==31) (.opt (a8 n_ (bp.mk (ay (1+(ay (i8 (b8 ((i8 y_3).tmod 5)))))) (ay (1+(ay (i8 (b8 ((i8 y_2).tmod 3)))))) (ay (s.aA.S.aS+1)) 1 [] (ay (1+(ay (i8 (b8 ((i8 y_4).tmod 2)))))) 0 [])) fun r_91=>
  .ret r_91)
 (.opt (a8 n_ (bp.mk (ay (1+(ay (i8 (b8 ((i8 y_3).tmod 5)))))) (ay (1+(ay (i8 (b8 ((i8 y_2).tmod 3)))))) s.aA.S.aS 1 [] (ay (1+(ay (i8 (b8 ((i8 y_4).tmod 2)))))) 0 [])) fun r_92=>
 .ret r_92))))))) .fail
def Ah:=fun s d=>(ve n_ s d).get
def uH (l:List (List UInt8)) (p:bB) (n:Int):Tree (List (List UInt8)):=
 .ite (decide (l.length≤dK)) (.ite (decide (p.At≥0)) (.ite (decide (p.At<(l.length:Int))) (.ite (cN p.At l.length) (.opt (l[p.At.toNat]?) fun y_1=>
   .ite (kJ 0 (ew (imax n 0) (ew (p.B.length:Int) (y_1.length:Int))) p.B.length) (.ite (cN p.At l.length) (.opt (l[p.At.toNat]?) fun y_2=>
    .ite (kJ (ew (imax n 0) (ew (p.B.length:Int) (y_1.length:Int))) (y_2.length:Int) y_2.length) (.ite (decide (((eo p.B 0 (ew (imax n 0) (ew (p.B.length:Int) (y_1.length:Int)))).length+(eo y_2 (ew (imax n 0) (ew (p.B.length:Int) (y_1.length:Int))) (y_2.length:Int)).length)≤dK)) (.ite (cN p.At l.length) (.opt (l[p.At.toNat]?) fun y_3=>
     .ret (l.set p.At.toNat ((eo p.B 0 (ew (imax n 0) (ew (p.B.length:Int) (y_1.length:Int))))++(eo y_2 (ew (imax n 0) (ew (p.B.length:Int) (y_1.length:Int))) (y_2.length:Int))))) .fail) .fail) .fail) .fail) .fail) .fail)
  (.ret l))
 (.ret l)) .fail
def uI:=fun l p n=>(uH l p n).get
def nr (aH:List Int) (v_:Int×aN×aN):Tree ((Int×aN×aN) ⊕ (aN×aN)):=
 .ite (decide (v_.1<(v_.2.1.bC.length:Int))) (.ite (decide (v_.1<(aH.length:Int))) (.ite (cN v_.1 aH.length) (.opt (aH[v_.1.toNat]?) fun y_1=>
  .ite (cN v_.1 v_.2.1.bC.length) (.opt (v_.2.1.bC[v_.1.toNat]?) fun y_2=>
   .opt (uI v_.2.1.aU y_2 (ew (imax y_1 0) 32)) fun r_3=>
   .ret (.inl ((ay (v_.1+1)),{v_.2.1 with aU:=r_3},{v_.2.2 with aU:=[],bC:=[]}))) .fail) .fail)
 (.ite (cN v_.1 v_.2.1.bC.length) (.opt (v_.2.1.bC[v_.1.toNat]?) fun y_4=>
  .opt (uI v_.2.1.aU y_4 0) fun r_5=>
  .ret (.inl ((ay (v_.1+1)),{v_.2.1 with aU:=r_5},{v_.2.2 with aU:=[],bC:=[]}))) .fail))
 (.ret (.inr (v_.2.1,{v_.2.2 with aU:=[],bC:=[]})))
def jv:=fun aH v_=>(nr aH v_).get
def ze:=fun aH k d o1=>iter (jv aH) n_ (k,d,o1)
def uJ (d:aN) (aH:List Int):Tree aN:=
 .opt (ze n_ aH 0 d (aN.mk [] [] 0 false)) fun r_1=>
 .ret (aN.mk r_1.1.aU [] 0 false)
def zN:=fun d aH=>(uJ n_ d aH).get
def jF (l:List (List UInt8)) (aH:List Int) (v_:Int×aI×aG):Tree ((Int×aI×aG) ⊕ (aI×aG)):=
 .ite (decide (v_.1<(l.length:Int))) (.ite v_.2.1.Live (.ite (cN v_.1 l.length) (.opt (l[v_.1.toNat]?) fun y_1=>
  .opt (Ah n_ v_.2.1 y_1) fun r_2=>
  .opt (kO n_ v_.2.1 r_2) fun r_3=>
  .ite r_3.1.Live (.ret (.inl ((ay (v_.1+1)),r_3.1,r_3.1.aA.S)))
  (.ret (.inl ((ay (v_.1+1)),r_3.1,v_.2.2)))) .fail)
 (.ret (.inr (v_.2.1,v_.2.2))))
 (.ret (.inr (v_.2.1,v_.2.2)))
def kv:=fun l aH v_=>(jF n_ l aH v_).get
def pq:=fun l aH i s last=>iter (kv n_ l aH) n_ (i,s,last)
def oe (s:aI) (last:aG) (b:aI) (v_:Int×Int):Tree ((Int×Int) ⊕ Int):=
 .ite (decide (v_.2<(last.Marks.length:Int))) (.ite (cN v_.2 b.aA.S.Marks.length) (.opt (b.aA.S.Marks[v_.2.toNat]?) fun y_1=>
  .ite (cN v_.2 last.Marks.length) (.opt (last.Marks[v_.2.toNat]?) fun y_2=>
  .ite (!(bA.er y_1 y_2)) (.ret (.inl ((ay (v_.1+1)),(ay (v_.2+1)))))
  (.ret (.inl (v_.1,(ay (v_.2+1)))))) .fail) .fail)
 (.ret (.inr v_.1))
def xH:=fun s last b v_=>(oe s last b v_).get
def ky:=fun s last b apart i=>iter (xH s last b) n_ (apart,i)
def od (apart:Int) (s:aI) (last:aG) (b:aI) (v_:Int×Int):Tree ((Int×Int) ⊕ Int):=
 .ite (decide (v_.2<(last.aP.length:Int))) (.ite (cN v_.2 b.aA.S.aP.length) (.opt (b.aA.S.aP[v_.2.toNat]?) fun y_1=>
  .ite (cN v_.2 last.aP.length) (.opt (last.aP[v_.2.toNat]?) fun y_2=>
  .ite (!(bL.er y_1 y_2)) (.ret (.inl ((ay (v_.1+1)),(ay (v_.2+1)))))
  (.ret (.inl (v_.1,(ay (v_.2+1)))))) .fail) .fail)
 (.ret (.inr v_.1))
def xG:=fun apart s last b v_=>(od apart s last b v_).get
def kx:=fun apart s last b files i=>iter (xG apart s last b) n_ (files,i)
def lG (l:List (List UInt8)) (arm:UInt8) (aH:List Int):Tree Bool:=
 .opt (DC n_) fun r_1=>
 .ite (!r_1) (.ret false)
 (.ite (decide ((l.length:Int)>30)) (.ret true)
 (.ite (decide ((aH.length:Int)>20)) (.ret true)
 (.opt (uC n_ 0) fun r_2=>
 .opt (pq n_ l aH 0 {r_2 with aA:=(bV.mk {r_2.aA.D with gR:=(ay (1+(ay (i8 arm))))} r_2.aA.S)} r_2.aA.S) fun r_3=>
 .opt (zN n_ r_3.1.aA.D aH) fun r_4=>
 .opt (sb n_ r_4 r_3.1.gQ) fun r_5=>
 .ite (!r_5.2) (.ret false)
 (.ite ((r_5.1.aA.S.aP.length:Int) != (r_3.2.aP.length:Int)) (.ret false)
 (.ite ((r_5.1.aA.S.Marks.length:Int) != (r_3.2.Marks.length:Int)) (.ret false)
 (.opt (ky n_ r_3.1 r_3.2 r_5.1 0 0) fun r_6=>
 .opt (kx n_ r_6 r_3.1 r_3.2 r_5.1 0 0) fun r_7=>
 .ite (decide (r_6≤1)) (.ite (decide (r_7≤1)) (.ite (!r_3.1.Live) (.ite (decide (r_6>0)) (.ret true)
  (.ret (r_7==0)))
  (.ite ((ay (r_6+r_7))==0) (.ite (decide (r_6>0)) (.ret true)
  (.ret (r_7==0)))
  (.ret false)))
 (.ret false))
 (.ret false)))))))
def sr:=fun l arm aH=>(lG n_ l arm aH).get
end
end Go.Proofs.YtlejgahbbfeagaaGreatDoor.N
