/- What the functions compute, they compute: printed by a program, path by path. No conditions. -/
import Derived.Test.YtomahedcdcnnhaaGreatDoorProg
import Derived.Test.YtomahedcdcnnhaaGreatDoorKB
import Derived.Test.YtomahedcdcnnhaaGreatDoorM1
import Derived.KernelRfl
namespace Go.Proofs.YtomahedcdcnnhaaGreatDoor
open Go A
set_option linter.unusedVariables false
set_option maxRecDepth 100000
def ao (f:Nat):bw:={ esc:=match f with | 20=>[1] | 23=>[2] | 37=>[23] | 60=>[1] | 61=>[1] | 64=>[1] | 82=>[24] | 84=>[7] | 98=>[12] | 109=>[8] | _=>[],ms:=match f with | 29=>[26,34] | _=>[],bx:=match f with | 3=>[3,12] | 4=>[1,6,8,12] | 5=>[3,5,7] | 6=>[3,9] | 8=>[2] | 9=>[1] | 10=>[1] | 11=>[1,3] | 13=>[1,2,3] | 14=>[3,7] | 15=>[1] | 16=>[1] | 17=>[1] | 18=>[1] | 20=>[2,6] | 21=>[1,2,3] | 22=>[1] | 24=>[2,5] | 25=>[1,3] | 26=>[1] | 27=>[2,3] | 28=>[1] | 29=>[2] | 31=>[1,2] | 32=>[3] | 36=>[1,6] | 37=>[6] | 38=>[6] | 39=>[2,4] | 40=>[2,4] | 41=>[2,4] | 42=>[0] | 43=>[6] | 44=>[3,7,10] | 45=>[3,8,13] | 46=>[1] | 47=>[5,8] | 54=>[6] | 55=>[3,7] | 56=>[2] | 57=>[4,9,10,13,15,17] | 58=>[1,2] | 59=>[1,2] | 61=>[5] | 62=>[1] | 63=>[1] | 64=>[6] | 68=>[2,3] | 69=>[1] | 71=>[3,7,8] | 72=>[3] | 74=>[1,2] | 75=>[4] | 76=>[7] | 78=>[7,9] | 79=>[8] | 80=>[1,2] | 82=>[7] | 85=>[2,3] | 87=>[1,4,5] | 90=>[1] | 94=>[0] | 100=>[2,3,5,6] | 104=>[2] | 111=>[2] | 131=>[1,2] | 135=>[1] | _=>[],st:=[13,34,37,39,40,41,47,77,81,102],fz:=match f with | 59=>[6,10,14] | _=>[],dc:=[13,34],ow:=match f with | 37=>[21,45,54] | _=>[],cl:=match f with | 37=>[9,11] | _=>[],fr:=match f with | 37=>[11] | _=>[] }
def JR (f:Nat):Bool:=!(fe [13,34,37,39,40,41,47,77,81,102] f)
noncomputable def cfg:qY:={ P:=Tryz.prog,pure:=JR,pol:=ao }
theorem mixed:cfg.P.follows .mixedOrders=true:=by kernel_rfl
theorem GE : (cfg.P.funcs.all fun fn => !(fn.name == "runtime.NumGoroutine")) = true := by kernel_rfl
theorem names:lJ cfg.P:=BD GE
noncomputable def cx (pc:Nat→List AV→(AV→Prop)→Prop) (sc:Nat→List AV→List Ob→(AV→List Ob→Prop)→Prop) (lp:bw→Code→St→(Ex→St→Prop)→Prop):Ctx:={ P:=Tryz.prog,pure:=JR,pol:=ao,pcall:=pc,scall:=sc,loop:=lp }
theorem QN {A:xI} {f:Nat} {args:List AV} {r:AV} (hB:aA (ao f) A.ord (al Tryz.prog f)=true) (h:DW (cx (az Tryz.prog) (SD Tryz.prog) (cD Tryz.prog)) (aW Tryz.prog) A f args (fun x=>aJ x r)):az Tryz.prog f args (fun x=>x=r):=az.ofO (cfg:=cfg) names mixed hB h
theorem RV {A:xI} {f:Nat} {args:List AV} {o o1:List Ob} {r1:AV} {K:AV→List Ob→Prop} (hB:aA (ao f) A.ord (al Tryz.prog f)=true) (h:CW (cx (az Tryz.prog) (SD Tryz.prog) (cD Tryz.prog)) (aW Tryz.prog) A f args o (fun r o2=>r=r1∧o2=o1)) (hk:K r1 o1):SD Tryz.prog f args o K:=SD.ofO (cfg:=cfg) names mixed hB h hk
theorem Cd {pl:bw} {c:Code} {S S1:St} {e:Ex} {K:Ex→St→Prop} {A:xI} {we:List (Nat×(Wk×Le))} (hB:aA pl A.ord c=true) (h:wC (cx (az Tryz.prog) (SD Tryz.prog) (cD Tryz.prog)) (aW Tryz.prog) A pl we c S (fun e2 S2=>e2=e∧S2=S1)) (hk:K e S1):aW Tryz.prog c S K:=aW.of (cfg:=cfg) mixed hB h hk
theorem eA {pl:bw} {c:Code} {σ τ:Type} {step:σ→Option (σ⊕τ)} (Sf:σ→St) (out:τ→Ex×St) (hs:∀ s r,step s=some r→aW Tryz.prog c (Sf s) (rk Sf out r)) (n:Nat) (s:σ) (t:τ) (h:A.iter step n s=some t):cD Tryz.prog pl c (Sf s) fun e S2=>e=(out t).1∧S2=(out t).2:=cD.iter (cfg:=cfg) Sf out hs n s t h
def ll {α:Type} (f:α→List AV) (x:eW α):List AV:=f x.e0++f x.e1
def QO {α:Type} (f:α→List AV) (x:Ke α):List AV:=f x.e0++f x.e1++f x.e2++f x.e3
def PF {α:Type} (f:α→List AV) (x:Mv α):List AV:=f x.e0++f x.e1++f x.e2++f x.e3++f x.e4++f x.e5++f x.e6++f x.e7++f x.e8++f x.e9++f x.e10++f x.e11++f x.e12
def Cell.enc (x:Cell):List AV:=[.v (.int .u64 x.Addr),.v (.int .u64 x.Value)]
def Deps.enc (x:Deps):List AV:=[.sl (x.Addr.map (l7 .i64)),.sl (x.Data.map (l7 .i64)),.sl (x.Way.map (l7 .i64))]
def Event.enc (x:Event):List AV:=[.v (.int .i64 x.Hart),.v (.int .i64 x.At),.v (.int .i64 x.Kind),.v (.int .u64 x.Addr),.v (.int .u64 x.Load),.v (.int .u64 x.Store),.v (.bool x.Aq),.v (.bool x.Rl),.v (.int .i64 x.Pred),.v (.int .i64 x.Succ),.v (.int .i64 x.Pair),.sl (x.Deps.Addr.map (l7 .i64)),.sl (x.Deps.Data.map (l7 .i64)),.sl (x.Deps.Way.map (l7 .i64))]
def af.enc (x:af):List AV:=[.sl (x.First.map Cell.enc),.sl (x.Harts.map (et Event.enc)),.sl (x.From.map (l7 .i64)),.sl (x.Order.map (l7 .i64))]
def bi.enc (x:bi):List AV:=[.v (.bool x.OK),.v (.int .i64 x.Why),.v (.int .i64 x.A_),.v (.int .i64 x.B)]
def aT.enc (x:aT):List AV:=[.v (.int .i64 x.hart),.v (.int .i64 x.at_),.v (.int .i64 x.kind),.v (.int .i64 x.pred),.v (.int .i64 x.succ),.v (.int .i64 x.pair),.v (.int .u64 x.addr),.v (.int .u64 x.load),.v (.int .u64 x.store),.v (.bool x.aq),.v (.bool x.rl)]
def ai.enc (x:ai):List AV:=[(BQ af.enc x.c),.sl (x.all.map Event.enc),.sl (x.fences.e0.map (l7 .i64)),.sl (x.fences.e1.map (l7 .i64)),.sl (x.fences.e2.map (l7 .i64)),.sl (x.fences.e3.map (l7 .i64)),.sl (x.hung.map (l7 .i64))]
theorem mG (x y:bi):nN Tryz.prog .eql 48 [(.bool x.OK),(.int .i64 x.Why),(.int .i64 x.A_),(.int .i64 x.B)] [(.bool y.OK),(.int .i64 y.Why),(.int .i64 y.A_),(.int .i64 y.B)]=some (.bool (bi.beq x y)):=yW (by kernel_rfl) (by kernel_rfl)
theorem jV (x y:aT):nN Tryz.prog .eql 148 [(.int .i64 x.hart),(.int .i64 x.at_),(.int .i64 x.kind),(.int .i64 x.pred),(.int .i64 x.succ),(.int .i64 x.pair),(.int .u64 x.addr),(.int .u64 x.load),(.int .u64 x.store),(.bool x.aq),(.bool x.rl)] [(.int .i64 y.hart),(.int .i64 y.at_),(.int .i64 y.kind),(.int .i64 y.pred),(.int .i64 y.succ),(.int .i64 y.pair),(.int .u64 y.addr),(.int .u64 y.load),(.int .u64 y.store),(.bool y.aq),(.bool y.rl)]=some (.bool (aT.beq x y)):=yW (by kernel_rfl) (by kernel_rfl)
theorem wM:uf Tryz.prog 40 (aR .u64) (fun x=>Value.int .u64 x) fE:=⟨fun _=>rfl,fun _ _=>by kernel_rfl,fun _ _=>by kernel_rfl,fun a b h=>by
  have e:=Dt h
  subst e
  simp [Instr.sameBits]⟩
theorem qN (l:(List (Int×(List Int)))) (k:Int) (h:kj fE l k=none):va Tryz.prog 40 24 false (aR .u64) (ep (l7 .i64)) l k .nilsl:=Ix (by kernel_rfl) wM .nilsl (fun _=>by kernel_rfl) l k h
theorem qO (l:(List (Int×(List Int)))) (k:Int) {v:(List Int)} (h:kj fE l k=some v):va Tryz.prog 40 24 false (aR .u64) (ep (l7 .i64)) l k ((ep (l7 .i64)) v):=Iy (by kernel_rfl) wM l k h
theorem qP (ks:List Int) (k:Int) {r:Option Nat} (h:dM fE ks k=r):GD Tryz.prog 40 (aR .u64) ks k r:=Iz (by kernel_rfl) wM ks k h
theorem C2 (ks:List Int) (k:Int) (h:dM fE ks k=none):D4 Tryz.prog 40 (aR .u64) ks k none ((ks++[k]).map (aR .u64)):=IA (by kernel_rfl) wM ks k h
theorem wN (ks:List Int) (k:Int) {i:Nat} (h:dM fE ks k=some i):D4 Tryz.prog 40 (aR .u64) ks k (some i) (ks.map (aR .u64)):=IB (by kernel_rfl) wM (fun _ _=>Dt) ks k h
noncomputable abbrev pP:=az Tryz.prog
noncomputable abbrev sP:=SD Tryz.prog
noncomputable abbrev lP:=cD Tryz.prog
noncomputable abbrev dP:=aW Tryz.prog
abbrev vT:AV:=.v (.bool true)
abbrev vF:AV:=.v (.bool false)
abbrev IC (a b:Bool):Prop:=AV.v (.bool a)=AV.v (.bool b)
noncomputable abbrev oP (pc:Nat→List AV→(AV→Prop)→Prop) (sc:Nat→List AV→List Ob→(AV→List Ob→Prop)→Prop) (lp:bw→Code→St→(Ex→St→Prop)→Prop) (cd:wB):=DW (cx pc sc lp) cd
noncomputable abbrev oR (pc:Nat→List AV→(AV→Prop)→Prop) (sc:Nat→List AV→List Ob→(AV→List Ob→Prop)→Prop) (lp:bw→Code→St→(Ex→St→Prop)→Prop) (cd:wB):=wC (cx pc sc lp) cd
abbrev eY (a:AV):AV→Prop:=fun x=>x=a
theorem H6 {α:Type} {f:α→List AV} {l:List α} (hf:∀ x,(f x).all lU=true:=by exact fun _=>rfl):a5 (l.map f)=true:=C1 f l hf
theorem JS {α:Type} {f:α→List AV} {l:List α} {sz:Nat} (hf:∀ x,Nat.beq (f x).length sz=true:=by exact fun _=>rfl):di sz (l.map f)=true:=BR f l hf
theorem cB {a b:Bool} (h:a=b):AV.v (.bool a)=AV.v (.bool b):=congrArg JO h
abbrev eI:Int→List AV:=l7 .i64
abbrev vI (n:Int):AV:=.v (.int .i64 n)
abbrev vU (n:Int):AV:=.v (.int .u64 n)
abbrev bh (i:Nat) (v c:List (Nat×AV)):Nat×fa:=(i,⟨[],[],[],v,c,[],[],[],[]⟩)
abbrev rV (i:Nat) (v:List (Nat×AV)):Nat×fa:=(i,⟨[],[],[],v,[],[],[],[],[]⟩)
abbrev rC (i:Nat) (c:List (Nat×AV)):Nat×fa:=(i,⟨[],[],[],[],c,[],[],[],[]⟩)
theorem kP {f:Nat} {args:List AV} {r:AV} {B:Prop} (A:xI) (hB:aA (ao f) A.ord (al Tryz.prog f)=true) (b:aJ r r→B) (h:DW (cx (az Tryz.prog) (SD Tryz.prog) (cD Tryz.prog)) (aW Tryz.prog) A f args (fun x=>aJ x r)=B):az Tryz.prog f args (fun x=>x=r):=QN hB (h.symm▸b (aJ.refl r))
theorem kS {f:Nat} {args:List AV} {o o1:List Ob} {r1:AV} {K:AV→List Ob→Prop} {B:Prop} (A:xI) (hB:aA (ao f) A.ord (al Tryz.prog f)=true) (hk:K r1 o1) (b:(r1=r1∧o1=o1)→B) (h:CW (cx (az Tryz.prog) (SD Tryz.prog) (cD Tryz.prog)) (aW Tryz.prog) A f args o (fun r o2=>r=r1∧o2=o1)=B):SD Tryz.prog f args o K:=RV hB (h.symm▸b ⟨rfl,rfl⟩) hk
theorem kR {pl:bw} {c:Code} {S S1:St} {e:Ex} {K:Ex→St→Prop} {B:Prop} (A:xI) (we:List (Nat×(Wk×Le))) (hB:aA pl A.ord c=true) (hk:K e S1) (b:(e=e∧S1=S1)→B) (h:wC (cx (az Tryz.prog) (SD Tryz.prog) (cD Tryz.prog)) (aW Tryz.prog) A pl we c S (fun e2 S2=>e2=e∧S2=S1)=B):aW Tryz.prog c S K:=Cd hB (h.symm▸b ⟨rfl,rfl⟩) hk
theorem kQ {ρ:Type} {x r:ρ} (hr:some x=some r) {pl:bw} {c:Code} {S S1:St} {e:Ex} {K:ρ→Ex→St→Prop} {B:Prop} (A:xI) (we:List (Nat×(Wk×Le))) (hB:aA pl A.ord c=true) (hk:K x e S1) (b:(e=e∧S1=S1)→B) (h:wC (cx (az Tryz.prog) (SD Tryz.prog) (cD Tryz.prog)) (aW Tryz.prog) A pl we c S (fun e2 S2=>e2=e∧S2=S1)=B):aW Tryz.prog c S (K r):=(aS hr)▸kR A we hB hk b h
abbrev l0:Le:=⟨[],[],[]⟩
abbrev LR:=List (Nat×fa)
abbrev nA (o:List (Nat×PT)) (r:List (Nat×fa)):xI:=⟨o,r,[],[],[]⟩
abbrev rR (i:Nat) (x:List (Nat×List AV)):Nat×fa:=(i,⟨[],[],x,[],[],[],[],[],[]⟩)
abbrev wK (e:Nat) (a b:List Nat) (c:Nat):Nat×(Wk×Le):=(e,⟨a,b,c,[],[],[]⟩,l0)
theorem aI {a r:Prop} (h:a) (k:r):a∧r:=⟨h,k⟩
theorem aB {a b:Bool} {r:Prop} (h:a=b) (k:r):(AV.v (.bool a)=AV.v (.bool b))∧r:=⟨congrArg JO h,k⟩
theorem aE (k:IntKind) {a b:Int} {r:Prop} (h:(a==b)=true) (z:r):(AV.v (.int k a)=AV.v (.int k b))∧r:=⟨xm h,z⟩
theorem aL {α:Type} (f:α→List AV) (l:List α) {r:Prop} (k:r):(AV.v (.int .i64 (((l.map f).length:Nat):Int))=AV.v (.int .i64 (l.length:Int)))∧r:=⟨u7 f l,k⟩
theorem aM {α:Type} (f:α→List AV) {l:List α} {i:Int} {x:α} {r:Prop} (h:aw l i=some x) (k:r):(CR (l.map f) i=some (f x))∧r:=⟨nh f h,k⟩
theorem aN {α:Type} (f:α→List AV) {l:List α} {i:Int} {x:α} {r:Prop} (h:aw l i=some x) (k:r):((l.map f)[i.toNat]?=some (f x))∧r:=⟨pC f h,k⟩

end Go.Proofs.YtomahedcdcnnhaaGreatDoor
