/- What the functions compute, they compute: printed by a program, path by path. No conditions. -/
import Derived.Test.YtomahedcdcnnhaaGreatDoorProg
import Derived.Test.YtomahedcdcnnhaaGreatDoorKB
import Derived.Test.YtomahedcdcnnhaaGreatDoorM1
import Derived.KernelRfl
namespace Go.Proofs.YtomahedcdcnnhaaGreatDoor
open Go A
set_option linter.unusedVariables false
set_option maxRecDepth 100000
def al (f:Nat):bz:={ esc:=match f with | 20=>[1] | 23=>[2] | 37=>[23] | 60=>[1] | 61=>[1] | 64=>[1] | 82=>[24] | 84=>[7] | 98=>[12] | 109=>[8] | _=>[],ms:=match f with | 29=>[26,34] | _=>[],bx:=match f with | 3=>[3,12] | 4=>[1,6,8,12] | 5=>[3,5,7] | 6=>[3,9] | 8=>[2] | 9=>[1] | 10=>[1] | 11=>[1,3] | 13=>[1,2,3] | 14=>[3,7] | 15=>[1] | 16=>[1] | 17=>[1] | 18=>[1] | 20=>[2,6] | 21=>[1,2,3] | 22=>[1] | 24=>[2,5] | 25=>[1,3] | 26=>[1] | 27=>[2,3] | 28=>[1] | 29=>[2] | 31=>[1,2] | 32=>[3] | 36=>[1,6] | 37=>[6] | 38=>[6] | 39=>[2,4] | 40=>[2,4] | 41=>[2,4] | 42=>[0] | 43=>[6] | 44=>[3,7,10] | 45=>[3,8,13] | 46=>[1] | 47=>[5,8] | 54=>[6] | 55=>[3,7] | 56=>[2] | 57=>[4,9,10,13,15,17] | 58=>[1,2] | 59=>[1,2] | 61=>[5] | 62=>[1] | 63=>[1] | 64=>[6] | 68=>[2,3] | 69=>[1] | 71=>[3,7,8] | 72=>[3] | 74=>[1,2] | 75=>[4] | 76=>[7] | 78=>[7,9] | 79=>[8] | 80=>[1,2] | 82=>[7] | 85=>[2,3] | 87=>[1,4,5] | 90=>[1] | 94=>[0] | 100=>[2,3,5,6] | 104=>[2] | 111=>[2] | 131=>[1,2] | 135=>[1] | _=>[],st:=[13,34,37,39,40,41,47,77,81,102],fz:=match f with | 59=>[6,10,14] | _=>[],dc:=[13,34],ow:=match f with | 37=>[21,45,54] | _=>[],cl:=match f with | 37=>[9,11] | _=>[],fr:=match f with | 37=>[11] | _=>[] }
def LF (f:Nat):Bool:=!(fP [13,34,37,39,40,41,47,77,81,102] f)
noncomputable def cfg:sA:={ P:=Tryz.prog,pure:=LF,pol:=al }
theorem mixed:cfg.P.follows .mixedOrders=true:=by kernel_rfl
theorem Ih : (cfg.P.funcs.all fun fn => !(fn.name == "runtime.NumGoroutine")) = true := by kernel_rfl
theorem names:mN cfg.P:=CY Ih
noncomputable def cx (pc:Nat→List AV→(AV→Prop)→Prop) (sc:Nat→List AV→List Ob→(AV→List Ob→Prop)→Prop) (lp:bz→Code→St→(Ex→St→Prop)→Prop):Ctx:={ P:=Tryz.prog,pure:=LF,pol:=al,pcall:=pc,scall:=sc,loop:=lp }
theorem TZ {A:zj} {f:Nat} {args:List AV} {r:AV} (hB:ax (al f) A.ord (aj Tryz.prog f)=true) (h:Fx (cx (aw Tryz.prog) (SD Tryz.prog) (cJ Tryz.prog)) (aQ Tryz.prog) A f args (fun x=>ce x r)):aw Tryz.prog f args (fun x=>x=r):=aw.ofO (cfg:=cfg) names mixed hB h
theorem U1 {A:zj} {f:Nat} {args:List AV} {o o1:List Ob} {r1:AV} {K:AV→List Ob→Prop} (hB:ax (al f) A.ord (aj Tryz.prog f)=true) (h:Eo (cx (aw Tryz.prog) (SD Tryz.prog) (cJ Tryz.prog)) (aQ Tryz.prog) A f args o (fun r o2=>r=r1∧o2=o1)) (hk:K r1 o1):SD Tryz.prog f args o K:=SD.ofO (cfg:=cfg) names mixed hB h hk
theorem DD {pl:bz} {c:Code} {S S1:St} {e:Ex} {K:Ex→St→Prop} {A:zj} {we:List (Nat×(Wk×Le))} (hB:ax pl A.ord c=true) (h:yc (cx (aw Tryz.prog) (SD Tryz.prog) (cJ Tryz.prog)) (aQ Tryz.prog) A pl we c S (fun e2 S2=>e2=e∧S2=S1)) (hk:K e S1):aQ Tryz.prog c S K:=aQ.of (cfg:=cfg) mixed hB h hk
theorem eo {pl:bz} {c:Code} {σ τ:Type} {step:σ→Option (σ⊕τ)} (Sf:σ→St) (out:τ→Ex×St) (hs:∀ s r,step s=some r→aQ Tryz.prog c (Sf s) (rk Sf out r)) (n:Nat) (s:σ) (t:τ) (h:A.iter step n s=some t):cJ Tryz.prog pl c (Sf s) fun e S2=>e=(out t).1∧S2=(out t).2:=cJ.iter (cfg:=cfg) Sf out hs n s t h
def ft {α:Type} (f:α→List AV) (x:b_ α):List AV:=f x.e0++f x.e1
def T0 {α:Type} (f:α→List AV) (x:Ma α):List AV:=f x.e0++f x.e1++f x.e2++f x.e3
def SH {α:Type} (f:α→List AV) (x:OM α):List AV:=f x.e0++f x.e1++f x.e2++f x.e3++f x.e4++f x.e5++f x.e6++f x.e7++f x.e8++f x.e9++f x.e10++f x.e11++f x.e12
def Cell.enc (x:Cell):List AV:=[.v (.int .u64 x.Addr),.v (.int .u64 x.Value)]
def dg.enc (x:dg):List AV:=[.sl (x.Addr.map (mm .i64)),.sl (x.Data.map (mm .i64)),.sl (x.Way.map (mm .i64))]
def Event.enc (x:Event):List AV:=[.v (.int .i64 x.Hart),.v (.int .i64 x.At),.v (.int .i64 x.Kind),.v (.int .u64 x.Addr),.v (.int .u64 x.Load),.v (.int .u64 x.Store),.v (.bool x.Aq),.v (.bool x.Rl),.v (.int .i64 x.Pred),.v (.int .i64 x.Succ),.v (.int .i64 x.Pair),.sl (x.dg.Addr.map (mm .i64)),.sl (x.dg.Data.map (mm .i64)),.sl (x.dg.Way.map (mm .i64))]
def af.enc (x:af):List AV:=[.sl (x.gc.map Cell.enc),.sl (x.am.map (dA Event.enc)),.sl (x.la.map (mm .i64)),.sl (x.bt.map (mm .i64))]
def bg.enc (x:bg):List AV:=[.v (.bool x.OK),.v (.int .i64 x.Why),.v (.int .i64 x.A_),.v (.int .i64 x.B)]
def aU.enc (x:aU):List AV:=[.v (.int .i64 x.hart),.v (.int .i64 x.at_),.v (.int .i64 x.kind),.v (.int .i64 x.pred),.v (.int .i64 x.succ),.v (.int .i64 x.pair),.v (.int .u64 x.addr),.v (.int .u64 x.load),.v (.int .u64 x.store),.v (.bool x.aq),.v (.bool x.rl)]
def ai.enc (x:ai):List AV:=[(Db af.enc x.c),.sl (x.all.map Event.enc),.sl (x.fences.e0.map (mm .i64)),.sl (x.fences.e1.map (mm .i64)),.sl (x.fences.e2.map (mm .i64)),.sl (x.fences.e3.map (mm .i64)),.sl (x.hung.map (mm .i64))]
def ac.enc (x:ac):List AV:=[.sl (x.C_.gc.map Cell.enc),.sl (x.C_.am.map (dA Event.enc)),.sl (x.C_.la.map (mm .i64)),.sl (x.C_.bt.map (mm .i64)),.sl (x.All.map Event.enc)]
theorem nL (x y:bg):pw Tryz.prog .eql 48 [(.bool x.OK),(.int .i64 x.Why),(.int .i64 x.A_),(.int .i64 x.B)] [(.bool y.OK),(.int .i64 y.Why),(.int .i64 y.A_),(.int .i64 y.B)]=some (.bool (bg.beq x y)):=Av (by kernel_rfl) (by kernel_rfl)
theorem kL (x y:aU):pw Tryz.prog .eql 148 [(.int .i64 x.hart),(.int .i64 x.at_),(.int .i64 x.kind),(.int .i64 x.pred),(.int .i64 x.succ),(.int .i64 x.pair),(.int .u64 x.addr),(.int .u64 x.load),(.int .u64 x.store),(.bool x.aq),(.bool x.rl)] [(.int .i64 y.hart),(.int .i64 y.at_),(.int .i64 y.kind),(.int .i64 y.pred),(.int .i64 y.succ),(.int .i64 y.pair),(.int .u64 y.addr),(.int .u64 y.load),(.int .u64 y.store),(.bool y.aq),(.bool y.rl)]=some (.bool (aU.beq x y)):=Av (by kernel_rfl) (by kernel_rfl)
theorem yl:vD Tryz.prog 40 (aS .u64) (fun x=>Value.int .u64 x) gl:=⟨fun _=>rfl,fun _ _=>by kernel_rfl,fun _ _=>by kernel_rfl,fun a b h=>by
  have e:=E6 h
  subst e
  simp [Instr.sameBits]⟩
theorem r6 (l:(List (Int×(List Int)))) (k:Int) (h:ll gl l k=none):wB Tryz.prog 40 24 false (aS .u64) (eN (mm .i64)) l k .nilsl:=Kc (by kernel_rfl) yl .nilsl (fun _=>by kernel_rfl) l k h
theorem r7 (l:(List (Int×(List Int)))) (k:Int) {v:(List Int)} (h:ll gl l k=some v):wB Tryz.prog 40 24 false (aS .u64) (eN (mm .i64)) l k ((eN (mm .i64)) v):=Kd (by kernel_rfl) yl l k h
theorem r8 (ks:List Int) (k:Int) {r:Option Nat} (h:dZ gl ks k=r):Ig Tryz.prog 40 (aS .u64) ks k r:=Ke (by kernel_rfl) yl ks k h
theorem Ev (ks:List Int) (k:Int) (h:dZ gl ks k=none):FF Tryz.prog 40 (aS .u64) ks k none ((ks++[k]).map (aS .u64)):=Kf (by kernel_rfl) yl ks k h
theorem ym (ks:List Int) (k:Int) {i:Nat} (h:dZ gl ks k=some i):FF Tryz.prog 40 (aS .u64) ks k (some i) (ks.map (aS .u64)):=Kg (by kernel_rfl) yl (fun _ _=>E6) ks k h
noncomputable abbrev pP:=aw Tryz.prog
noncomputable abbrev sP:=SD Tryz.prog
noncomputable abbrev lP:=cJ Tryz.prog
noncomputable abbrev dP:=aQ Tryz.prog
abbrev vT:AV:=.v (.bool true)
abbrev vF:AV:=.v (.bool false)
abbrev Kh (a b:Bool):Prop:=AV.v (.bool a)=AV.v (.bool b)
noncomputable abbrev oP (pc:Nat→List AV→(AV→Prop)→Prop) (sc:Nat→List AV→List Ob→(AV→List Ob→Prop)→Prop) (lp:bz→Code→St→(Ex→St→Prop)→Prop) (cd:yb):=Fx (cx pc sc lp) cd
noncomputable abbrev oR (pc:Nat→List AV→(AV→Prop)→Prop) (sc:Nat→List AV→List Ob→(AV→List Ob→Prop)→Prop) (lp:bz→Code→St→(Ex→St→Prop)→Prop) (cd:yb):=yc (cx pc sc lp) cd
abbrev ew (a:AV):AV→Prop:=fun x=>x=a
theorem FG {α:Type} {f:α→List AV} {l:List α} (hf:∀ x,(f x).all m3=true:=by exact fun _=>rfl):aT (l.map f)=true:=Eu f l hf
theorem Hf {α:Type} {f:α→List AV} {l:List α} {sz:Nat} (hf:∀ x,Nat.beq (f x).length sz=true:=by exact fun _=>rfl):cH sz (l.map f)=true:=Dc f l hf
theorem cB {a b:Bool} (h:a=b):AV.v (.bool a)=AV.v (.bool b):=congrArg LB h
abbrev eI:Int→List AV:=mm .i64
abbrev vI (n:Int):AV:=.v (.int .i64 n)
abbrev vU (n:Int):AV:=.v (.int .u64 n)
abbrev aZ (i:Nat) (v c:List (Nat×AV)):Nat×fK:=(i,⟨[],[],[],v,c,[],[],[],[]⟩)
abbrev rV (i:Nat) (v:List (Nat×AV)):Nat×fK:=(i,⟨[],[],[],v,[],[],[],[],[]⟩)
abbrev rC (i:Nat) (c:List (Nat×AV)):Nat×fK:=(i,⟨[],[],[],[],c,[],[],[],[]⟩)
theorem kP {f:Nat} {args:List AV} {r:AV} {B:Prop} (A:zj) (hB:ax (al f) A.ord (aj Tryz.prog f)=true) (b:ce r r→B) (h:Fx (cx (aw Tryz.prog) (SD Tryz.prog) (cJ Tryz.prog)) (aQ Tryz.prog) A f args (fun x=>ce x r)=B:=by kernel_rfl):aw Tryz.prog f args (fun x=>x=r):=TZ hB (h.symm▸b (ce.refl r))
theorem kS {f:Nat} {args:List AV} {o o1:List Ob} {r1:AV} {K:AV→List Ob→Prop} {B:Prop} (A:zj) (hB:ax (al f) A.ord (aj Tryz.prog f)=true) (hk:K r1 o1) (b:(r1=r1∧o1=o1)→B) (h:Eo (cx (aw Tryz.prog) (SD Tryz.prog) (cJ Tryz.prog)) (aQ Tryz.prog) A f args o (fun r o2=>r=r1∧o2=o1)=B:=by kernel_rfl):SD Tryz.prog f args o K:=U1 hB (h.symm▸b ⟨rfl,rfl⟩) hk
theorem kR {pl:bz} {c:Code} {S S1:St} {e:Ex} {K:Ex→St→Prop} {B:Prop} (A:zj) (we:List (Nat×(Wk×Le))) (hB:ax pl A.ord c=true) (hk:K e S1) (b:(e=e∧S1=S1)→B) (h:yc (cx (aw Tryz.prog) (SD Tryz.prog) (cJ Tryz.prog)) (aQ Tryz.prog) A pl we c S (fun e2 S2=>e2=e∧S2=S1)=B):aQ Tryz.prog c S K:=DD hB (h.symm▸b ⟨rfl,rfl⟩) hk
theorem kQ {ρ:Type} {x r:ρ} (hr:some x=some r) {pl:bz} {c:Code} {S S1:St} {e:Ex} {K:ρ→Ex→St→Prop} {B:Prop} (A:zj) (we:List (Nat×(Wk×Le))) (hB:ax pl A.ord c=true) (hk:K x e S1) (b:(e=e∧S1=S1)→B) (h:yc (cx (aw Tryz.prog) (SD Tryz.prog) (cJ Tryz.prog)) (aQ Tryz.prog) A pl we c S (fun e2 S2=>e2=e∧S2=S1)=B:=by kernel_rfl):aQ Tryz.prog c S (K r):=(aF hr)▸kR A we hB hk b h
abbrev l0:Le:=⟨[],[],[]⟩
abbrev LR:=List (Nat×fK)
abbrev nA (o:List (Nat×PT)) (r:List (Nat×fK)):zj:=⟨o,r,[],[],[]⟩
abbrev rR (i:Nat) (x:List (Nat×List AV)):Nat×fK:=(i,⟨[],[],x,[],[],[],[],[],[]⟩)
abbrev wK (e:Nat) (a b:List Nat) (c:Nat):Nat×(Wk×Le):=(e,⟨a,b,c,[],[],[]⟩,l0)
theorem aI {a r:Prop} (h:a) (k:r):a∧r:=⟨h,k⟩
theorem aB {a b:Bool} {r:Prop} (h:a=b) (k:r):(AV.v (.bool a)=AV.v (.bool b))∧r:=⟨congrArg LB h,k⟩
theorem aE (k:IntKind) {a b:Int} {r:Prop} (h:(a==b)=true) (z:r):(AV.v (.int k a)=AV.v (.int k b))∧r:=⟨yQ h,z⟩
theorem aL {α:Type} (f:α→List AV) (l:List α) {r:Prop} (k:r):(AV.v (.int .i64 (((l.map f).length:Nat):Int))=AV.v (.int .i64 (l.length:Int)))∧r:=⟨tf f l,k⟩
theorem aM {α:Type} (f:α→List AV) {l:List α} {i:Int} {x:α} {r:Prop} (h:au l i=some x) (k:r):(DC (l.map f) i=some (f x))∧r:=⟨nf f h,k⟩
theorem aN {α:Type} (f:α→List AV) {l:List α} {i:Int} {x:α} {r:Prop} (h:au l i=some x) (k:r):((l.map f)[i.toNat]?=some (f x))∧r:=⟨qI f h,k⟩

theorem lc {a:AV} {xs ys:List AV} (h:dE xs ys):dE (a::xs) (a::ys):=dE.cons (ce.refl a) h
end Go.Proofs.YtomahedcdcnnhaaGreatDoor
