/-
  Part ZE of what Lawnr stands on: printed by program, names and spaces cut.
-/
import Derived.Test.YtbjadbhkogcfeaaGreatZD
open Go renaming Value→IN,IntKind→xy,Operand→yN,World→yQ,Program→yw,Oper→AAA
open Nat renaming le_refl→IT,ble→xd,beq→xr,lt_or_ge→yG,zero_le→yK,le_trans→yP,mul→yl,lt_of_lt_of_le→yr,blt→yu,add→zH,le_of_lt→zI,beq_refl→zU,le_zero→AAt,not_lt_zero→ABP,not_lt→ABp
open List renaming mem_cons_of_mem→xZ,mem_cons_self→xa,mem_cons→xz,mem_map→yz,nodup_cons→AAW,map_cons→AAx
open Go.Sem renaming run_pure→xk
open Array renaming getD_eq_getD_getElem?→yp
open Go.Region renaming wanted→ABN
set_option linter.unusedSimpArgs false
set_option linter.unusedVariables false
namespace Go.Proofs.YtbjadbhkogcfeaaGreat
noncomputable section
open Go
def vI(h:Hp):R->R
 |.ok v _=>.ok v h
 |.no=>.no
def Kr(g:Hp->R):Prop:=∀ h h2:Hp,h2.bl=h.bl->g h2=vI h2 (g h)
def Kp(g:OpF):Prop:=∀ F e,Kr (g F e)
theorem Kr.same{g:Hp->R}(k:Kr g){h h':Hp}{v:IN}(hr:g h=.ok v h'):h'=h:=by
 have:=k h h rfl;rw[hr]at this;have:(R.ok v h')=.ok v h:=this;cases this;rfl
theorem Kr.at{g:Hp->R}(k:Kr g){h h':Hp}{v:IN}(hr:g h=.ok v h')(h2:Hp)(hb:h2.bl=h.bl):g h2=.ok v h2:=by
 rw[k h h2 hb,hr];rfl
theorem Kr.no:Kr fun _=>.no:=fun _ _ _=>rfl
theorem Kr.ok(v:IN):Kr fun h=>.ok v h:=fun _ _ _=>rfl
theorem Kr.bif{c:Bool}{a b:Hp->R}(ka:Kr a)(kb:Kr b):Kr fun h=>bif c then a h else b h:=by
 cases c
 ·exact kb
 ·exact ka
theorem Kr.AEN{v:IN}{k:IN->Hp->R}(hk:∀ v,Kr (k v)):Kr fun h=>AEN v fun v=>k v h:=by
 intro h h2 hb;simp only[BR];exact hk v h h2 hb
theorem Kr.AEv{v:List IN}{k:List IN->Hp->R}(hk:∀ v,Kr (k v)):Kr fun h=>AEv v fun v=>k v h:=by
 intro h h2 hb;simp only[C2];exact hk v h h2 hb
theorem Kr.AEU{v:Nat}{k:Nat->Hp->R}(hk:∀ v,Kr (k v)):Kr fun h=>AEU v fun v=>k v h:=by
 intro h h2 hb;simp only[Ap];exact hk v h h2 hb
theorem Kr.okI(k:xy)(n:Int):Kr fun h=>okI k n h:=fun h h2 _=>by simp only[El];rfl
theorem Kr.AFS(v:IN):Kr fun h=>AFS v h:=fun h h2 _=>by simp only[E4];rfl
theorem Kr.okB(b:Bool):Kr fun h=>okB b h:=by cases b<;>exact .ok _
theorem Kr.row{b:Nat}{k:VT->Nat->Nat->Hp->R}{z:Hp->R}(hk:∀ c s e,Kr (k c s e))(hz:Kr z):Kr fun h=>match rowOf h b with
  |.ok c s e=>k c s e h
  |.no=>z h:=by
 intro h h2 hb;have:rowOf h2 b=rowOf h b:=by unfold rowOf;rw[hb]
 simp only[this];cases rowOf h b with
 |ok c s e=>exact hk c s e h h2 hb
 |no=>exact hz h h2 hb
theorem Kr.ents{b:Nat}{k:List Ent->Nat->Hp->R}{z:Hp->R}(hk:∀ c s,Kr (k c s))(hz:Kr z):Kr fun h=>match Bl h b with
  |.ok c s=>k c s h
  |.no=>z h:=by
 intro h h2 hb;have:Bl h2 b=Bl h b:=by unfold Bl;rw[hb]
 simp only[this];cases Bl h b with
 |ok c s=>exact hk c s h h2 hb
 |no=>exact hz h h2 hb
theorem Uh{c:VT}{off:Nat}{k:List IN->Hp->R}(hk:∀ l,Kr (k l))(n:Nat)(acc:List IN):Kr fun h=>Sh c off (fun l=>k l h) n acc:=by
 intro h h2 hb;simp only[Fq];exact hk _ h h2 hb
theorem HI{e:Env}{x:Option O}{d y:Nat}{k:Nat->Hp->R}(hk:∀ n,Kr (k n)):Kr fun h=>Cu e x d y fun n=>k n h:=by
 unfold Cu;cases x with
 |none=>exact hk d
 |some o=>
  simp only;cases DZ (o e)with
  |no=>exact .no
  |ok n=>exact .bif (hk n) .no
theorem NU{e:Env}{l c:Nat}{lo hi mx:Option O}{k:Nat->Nat->Nat->Hp->R}(hk:∀ a b c,Kr (k a b c)):Kr fun h=>Dc e l c lo hi mx fun a b c=>k a b c h:=by
 unfold Dc;cases mx with
 |none=>exact HI (k:=fun hh h=>Cu e lo 0 hh fun l=>k l hh c h) fun hh=>HI (k:=fun l h=>k l hh c h) fun l=>hk l hh c
 |some m=>
  refine HI (k:=fun m h=>_) fun m=>?_
  cases hi with
  |none=>exact .no
  |some hh=>exact HI (k:=fun hh h=>Cu e lo 0 hh fun l=>k l hh m h) fun hh=>HI (k:=fun l h=>k l hh m h) fun l=>hk l hh m
theorem Gv{a:Option Addr}{s l hh m:Nat}:Kr fun h=>Br a s l hh m h:=by
 unfold Br;refine .AEU (k:=fun n h=>_) fun n=>.AEU (k:=fun c h=>_) fun c=>?_
 cases xr m l with
 |true=>exact .ok _
 |false=>
  cases a with
  |none=>exact .ok _
  |some a=>
   simp only;cases yl l s with
   |zero=>exact .ok _
   |succ m=>exact .AEU (k:=fun o h=>_) fun o=>.ok _
theorem P9{e:Env}{k:List IN->Hp->R}(hk:∀ l,Kr (k l)):∀ (ps:List (Nat×Nat×O)) (cs:List IN),Kr fun h=>EX cs e (fun l=>k l h) ps
 |[],cs=>by
  unfold EX;exact .AEv (k:=k) hk
 |(off,size,x)::ps,cs=>by
  unfold EX;exact .AEN (k:=fun v h=>_) fun v=>.bif (.bif (.bif (P9 hk ps _) .no) .no) .no
theorem MW{ok:Bool}{v:IN}{b:Bool}:Kr fun h=>Et ok v b h:=by
 unfold Et;cases ok
 ·exact .AEN (k:=fun v h=>_) fun v=>.ok _
 ·exact .AEN (k:=fun v h=>_) fun v=>.ok _
theorem RA{a:Addr}{n:Nat}:Kr fun h=>OA a n h:=.AEU (k:=fun o h=>_) fun o=>.ok _
theorem RX{size:Nat}{v:IN}{n:Nat}{k:List IN->Hp->R}(hk:∀ l,Kr (k l)):Kr fun h=>BP h size v n fun l=>k l h:=by
 unfold BP;cases v with
 |slice a l c=>
  cases a with
  |none=>exact hk []
  |some a=>exact .row (k:=fun c s _ h=>bif xd (zH a.off (yl n size)) s then Sh c a.off (fun l=>k l h) (yl n size) []else .no) (z:=fun _=>.no) (fun c s _=>.bif (Uh hk _ _) .no) .no
 |string s=>exact .bif (hk _) .no
 |chan c=>
  cases c with
  |none=>exact .no
  |some r=>exact hk []
 |_=>exact .no
end
noncomputable section
open Go
theorem Kp.oNo:Kp oNo:=fun _ _=>.no
theorem Kp.w1{f:Fr}{x:yN}{k:O->OpF}(hk:∀ y,Kp (k y)):Kp (w1 f x k):=by
 unfold Go.Proofs.YtbjadbhkogcfeaaGreat.w1;split
 ·exact hk _
 ·exact .oNo
theorem Kp.w2{f:Fr}{x y:yN}{k:O->O->OpF}(hk:∀ x y,Kp (k x y)):Kp (w2 f x y k):=.w1 fun x=>.w1 fun y=>hk x y
theorem Kp.wTy{ty:TTy}{t:Nat}{k:TI->OpF}(hk:∀ ti,ty.get t=some ti->Kp (k ti)):Kp (wTy ty t k):=by
 unfold Go.Proofs.YtbjadbhkogcfeaaGreat.wTy;split
 ·rename_i ti h;exact hk ti h
 ·exact .oNo
theorem Kp.wZ{ti:TI}{k:OpF}(hk:Kp k):Kp (wZ ti k):=by
 unfold Go.Proofs.YtbjadbhkogcfeaaGreat.wZ;split
 ·exact hk
 ·exact .oNo
theorem Kp.wZero{ti:TI}{k:IN->OpF}(hk:∀ z,Kp (k z)):Kp (wZero ti k):=by
 unfold Go.Proofs.YtbjadbhkogcfeaaGreat.wZero;split
 ·exact hk _
 ·exact .oNo
theorem Kp.wKey{ty:TTy}{t:Nat}{k:KS->OpF}(hk:∀ z,Kp (k z)):Kp (wKey ty t k):=by
 unfold Go.Proofs.YtbjadbhkogcfeaaGreat.wKey;refine .wTy fun ti _=>?_
 split
 ·refine .wTy fun ki _=>?_
  split
  ·exact hk _
  ·exact .oNo
 ·exact .oNo
section
variable {x y z:O}
theorem Mj:Kp (AQ x):=fun F e=>.AFS _
theorem aP:Kp (A1 x y z):=fun F e=>by
 show Kr fun h=>ay (x e) (y e) (z e) h
 cases x e with
 |bool t=>cases t<;>exact .AFS _
 |_=>exact .no
theorem N5{zs:List IN}{ps:List (Nat×Nat×O)}:Kp (BC zs ps):=fun F e=>P9 (k:=fun cs h=>.ok (.agg ⟨cs⟩) h) (fun l=>.ok _) ps zs
theorem im:Kp (Bf x):=fun F e=>by
 show Kr fun h=>Xd (x e) h
 unfold Xd;cases x e with
 |pointer a=>cases a;exact .no;exact .ok _
 |func f a b=>cases f<;>first|exact .ok _|exact .no
 |slice a n c=>exact .ok _
 |map m=>exact .ok _
 |iface t v=>exact .AEN (k:=fun v h=>.ok (.iface t v) h) fun v=>.ok _
 |_=>exact .no
theorem iW{f:Int->Int->Bool}{k:xy}:Kp (Ai f k x y):=fun F e=>by
 show Kr fun h=>eZ f (Ct k (x e)) (Ct k (y e)) h
 cases Ct k (x e)with
 |no=>exact .no
 |ok a=>cases Ct k (y e)with
  |no=>exact .no
  |ok b=>exact .okB _
theorem iP{f:Int->Int->Int}{k:xy}:Kp (C1 f k x y):=fun F e=>by
 show Kr fun h=>mD f k (Ct k (x e)) (Ct k (y e)) h
 cases Ct k (x e)with
 |no=>exact .no
 |ok a=>cases Ct k (y e)with
  |no=>exact .no
  |ok b=>exact .okI _ _
theorem iM{k:xy}{top:Nat}:Kp (CG k top x y):=fun F e=>by
 show Kr fun h=>cZ k top (Ct k (x e)) (Ct k (y e)) h
 cases Ct k (x e)with
 |no=>exact .no
 |ok a=>cases Ct k (y e)with
  |no=>exact .no
  |ok b=>
   cases a with
   |negSucc _=>exact .okI _ _
   |ofNat a=>cases b with
    |negSucc _=>exact .okI _ _
    |ofNat b=>
     unfold cZ;simp only;cases xd (zH a b) top with
     |true=>exact .AEU (k:=fun n h=>.ok (.int k (.ofNat n)) h) fun n=>.ok _
     |false=>exact .okI _ _
theorem iZ{k:xy}:Kp (LH k x y):=fun F e=>by
 show Kr fun h=>ZP k (Ct k (x e)) (Ct k (y e)) h
 unfold ZP;cases Ct k (x e)with
 |no=>exact .no
 |ok a=>cases Ct k (y e)with
  |no=>exact .no
  |ok b=>exact .bif .no (.okI _ _)
theorem ir{k:xy}:Kp (Qx k x y):=fun F e=>by
 show Kr fun h=>bK k (Ct k (x e)) (Ct k (y e)) h
 unfold bK;cases Ct k (x e)with
 |no=>exact .no
 |ok a=>cases Ct k (y e)with
  |no=>exact .no
  |ok b=>exact .bif .no (.okI _ _)
theorem iU{f:Nat->Nat->Nat}{k:xy}:Kp (KZ f k x y):=fun F e=>by
 show Kr fun h=>Yf f k (GR k (x e)) (GR k (y e)) h
 unfold Yf;cases GR k (x e)with
 |no=>exact .no
 |ok a=>cases GR k (y e)with
  |no=>exact .no
  |ok b=>exact .bif (.bif (.okI _ _) .no) .no
theorem iw{k:xy}:Kp (NM k x y):=fun F e=>by
 show Kr fun h=>bX k (GR k (x e)) (DZ (y e)) h
 unfold bX;cases GR k (x e)with
 |no=>exact .no
 |ok a=>cases DZ (y e)with
  |no=>exact .no
  |ok b=>exact .okI _ _
theorem i6{k:xy}:Kp (LJ k x y):=fun F e=>by
 show Kr fun h=>bY k (GR k (x e)) (DZ (y e)) h
 unfold bY;cases GR k (x e)with
 |no=>exact .no
 |ok a=>cases DZ (y e)with
  |no=>exact .no
  |ok b=>exact .okI _ _
theorem i9{f:List UInt8->List UInt8->Bool}:Kp (Jd f x y):=fun F e=>by
 show Kr fun h=>bj f (x e) (y e) h
 unfold bj;cases x e with
 |string a=>cases y e with
  |string b=>exact .okB _
  |_=>exact .no
 |_=>exact .no
theorem rR{k:TK}{n:Bool}:Kp (oEq k n x y):=fun F e=>by
 unfold oEq;cases eqV k (x e) (y e)with
 |some r=>exact .okB _
 |none=>exact .no
theorem VM{k:KS}{n:Bool}:Kp (Mh k n x y):=fun F e=>by
 unfold Mh;cases eqC k (x e) (y e)with
 |some r=>exact .okB _
 |none=>exact .no
theorem ip:Kp (Dv x):=fun F e=>by
 unfold Dv;cases x e with
 |bool b=>exact .okB _
 |_=>exact .no
theorem aD{k:xy}:Kp (C7 k x):=fun F e=>by
 unfold C7;cases XV (x e)with
 |no=>exact .no
 |ok n=>exact .okI _ _
theorem Xw:Kp (FX x):=fun F e=>by
 unfold FX;cases x e with
 |slice a n c=>
  refine RX (k:=fun cs h=>match Er cs with|some bs=>.ok (.string ⟨⟨bs⟩⟩) h|none=>.no) fun l=>?_
  cases Er l with
  |some bs=>exact .ok _
  |none=>exact .no
 |chan r=>
  cases r with
  |some r=>exact .ok _
  |none=>exact .no
 |_=>exact .no
theorem Xl{t:Nat}:Kp (Mi t x):=fun F e=>.AEN (k:=fun v h=>.ok (.iface t v) h) fun v=>.ok _
theorem aH{fn:Fn}{a b:List O}:Kp (EZ fn a b):=fun F e=>.AEv (k:=fun f h=>AEv (vals e b) fun c=>.ok (.func fn ⟨f⟩ ⟨c⟩) h) fun f=>.AEv (k:=fun c h=>.ok (.func fn ⟨f⟩ ⟨c⟩) h) fun c=>.ok _
theorem eh{el s:Nat}{a:Option Addr}{mx:Bool}{l hh m:Nat}:Kr fun h=>EL el s a mx l hh m h:=by
 unfold EL;cases mx with
 |true=>exact Gv
 |false=>
  cases l with
  |zero=>exact Gv
  |succ l=>
   intro h h2 hb;have:Ez el a h2=Ez el a h:=by
    unfold Ez;cases a with
    |none=>rfl
    |some a=>
     have:rowOf h2 a.block=rowOf h a.block:=by unfold rowOf;rw[hb]
     simp only[this]
   simp only[this];cases Ez el a h with
   |true=>exact Gv h h2 hb
   |false=>rfl
theorem iX{el s:Nat}{lo hi mx:Option O}:Kp (EB el s x lo hi mx):=fun F e=>by
 unfold EB;cases x e with
 |slice a n c=>exact NU (k:=fun l hh m h=>EL el s a mx.isSome l hh m h) fun _ _ _=>eh
 |_=>exact .no
theorem S1{n s:Nat}{lo hi mx:Option O}:Kp (F1 n s x lo hi mx):=fun F e=>by
 unfold F1;cases Dt (x e)with
 |ok a=>exact NU (k:=fun l hh m h=>Br (some a) s l hh m h) fun _ _ _=>Gv
 |no=>exact .no
theorem NK{o:Nat}:Kp (AE o x):=fun F e=>by
 unfold AE;cases Dt (x e)with
 |ok a=>exact RA
 |no=>exact .no
theorem Up{n s:Nat}{a:AA}{i:NN}:Kr fun h=>MN n s a i h:=by
 unfold MN;cases i with
 |no=>exact .no
 |ok i=>
  simp only;cases yu i n with
  |false=>exact .no
  |true=>
   cases a with
   |no=>exact .no
   |ok a=>exact RA
theorem S3{n s:Nat}:Kp (Ce n s x y):=fun F e=>Up
theorem ib{s:Nat}:Kp (B9 s x y):=fun F e=>by
 unfold B9;cases x e with
 |slice a n c=>cases a;exact .no;exact Up
 |_=>exact .no
theorem Xg:Kp (Io x y):=fun F e=>by
 show Kr fun h=>J2 (x e) (DZ (y e)) h
 unfold J2;cases DZ (y e)with
 |no=>exact .no
 |ok i=>
  simp only;cases x e with
  |string s=>
   simp only;cases nth s.data.toList i with
   |some b=>exact .okI _ _
   |none=>exact .no
  |_=>exact .no
theorem Qt{i:Nat}:Kp (Aa i x):=fun F e=>by
 unfold Aa;cases x e with
 |tuple vs=>
  simp only;cases nth vs.toList i with
  |some v=>exact .AEN (k:=fun v h=>.ok v h) fun v=>.ok v
  |none=>exact .no
 |_=>exact .no
theorem iQ{n:Nat}:Kp (Qs n x):=fun F e=>by
 unfold Qs;cases x e with
 |slice a l c=>cases a;exact .no;exact .bif (.ok _) .no
 |_=>exact .no
theorem aJ:Kp (Be x):=fun F e=>by
 unfold Be;cases x e with
 |slice a n c=>exact .ok _
 |chan o=>cases o;exact .no;exact .ok _
 |_=>exact .no
theorem aL:Kp (N6 x):=fun F e=>by
 unfold N6;cases x e with
 |string s=>exact .AEU (k:=fun n h=>.ok (.int .i64 (.ofNat n)) h) fun n=>.ok _
 |_=>exact .no
theorem N0{l:Bool}{a b:IN}:Kr fun h=>Hf l a b h:=by
 unfold Hf;cases a with
 |int k a=>
  simp only;cases XV b with
  |no=>exact .no
  |ok b=>exact .bif (.ok _) (.ok _)
 |_=>exact .no
theorem ij:Kp (Xt x y):=fun F e=>N0
theorem ig:Kp (S7 x y):=fun F e=>N0
theorem Xo:Kp (AM x):=fun F e=>by
 unfold AM;cases Dt (x e)with
 |no=>exact .no
 |ok a=>
  intro h h2 hb;show AEC a h2=vI h2 (AEC a h);have:rowOf h2 a.block=rowOf h a.block:=by unfold rowOf;rw[hb]
  unfold AEC;rw[this];cases rowOf h a.block with
  |no=>rfl
  |ok c s t=>
   simp only;cases yu a.off s with
   |false=>rfl
   |true=>simp only[BR];rfl
theorem Xq{n:Nat}:Kp (BK n x):=fun F e=>by
 unfold BK;cases Dt (x e)with
 |no=>exact .no
 |ok a=>exact .row (k:=fun c s _ h=>bif xd (zH a.off n) s then Sh c a.off (fun l=>.ok (.agg ⟨l⟩) h) n []else .no) (z:=fun _=>.no) (fun c s _=>.bif (Uh (k:=fun l h=>.ok (.agg ⟨l⟩) h) (fun l=>.ok _) _ _) .no) .no
theorem S5{K:KS}{zv:IN}{ok:Bool}:Kp (Gk K zv ok x y):=fun F e=>by
 show Kr fun h=>H7 K zv (x e) (y e) ok h
 unfold H7;cases GC K (y e)with
 |false=>exact .no
 |true=>
  simp only;cases x e with
  |map r=>
   cases r with
   |none=>exact MW
   |some r=>
    refine .ents (k:=fun es _ h=>match MD K (y e) es with
     |some (some en)=>Et ok en.val true h
     |some none=>Et ok zv false h
     |none=>.no) (z:=fun _=>.no) (fun es _=>?_) .no
    cases MD K (y e) es with
    |none=>exact .no
    |some o=>cases o<;>exact MW
  |_=>exact .no
end
section
variable {ty:TTy}{f:Fr}
theorem dh{op:BinOp}{t:Nat}{x y:yN}:Kp (Yd ty f op t x y):=by
 unfold Yd;refine .wTy fun ti _=>.w2 fun x y=>?_
 split
 ·split
  ·cases op<;>first|exact .oNo|exact .oNo
  ·exact .oNo
 ·cases op<;>first|exact iM|exact iP|exact iZ|exact ir|exact iU|exact iw|exact i6|exact iW|exact .oNo
 ·cases op<;>first|exact .oNo|exact i9|exact .oNo
 ·split
  ·cases op<;>first|exact VM|exact .oNo
  ·exact .oNo
 ·split
  ·cases op<;>first|exact VM|exact .oNo
  ·exact .oNo
 ·cases op<;>first|exact rR|exact .oNo
theorem rT{op:Op}(hk:kd ty op=.p\/∃ x,kd ty op=.r x):Kp (opC ty f op):=by
 cases op with
 |move x=>exact .w1 fun x=>Mj
 |assign x=>exact .w1 fun x=>Mj
 |pick c a b=>exact .w1 fun c=>.w2 fun a b=>aP
 |build t ps=>
  refine .wTy fun ti _=>.wZ ?_
  split
  ·split
   ·exact N5
   ·exact .oNo
  ·refine .wTy fun ei _=>?_
   split
   ·exact N5
   ·exact .oNo
  ·exact .oNo
 |load t x=>
  refine .wTy fun ti _=>.w1 fun x=>?_
  split
  ·exact Xq
  ·exact Xo
 |nilCheck x=>exact .w1 fun x=>im
 |binOp op t x y u=>exact dh
 |unOp op t x=>
  refine .wTy fun ti _=>.w1 fun x=>?_
  split<;>first|exact ip|exact .oNo|exact .oNo|exact .oNo
 |convert src dst x=>
  refine .wTy fun si hsi=>.wTy fun di hdi=>.w1 fun x=>?_
  split
  ·exact aD
  ·exact .oNo
  ·refine .wTy fun ei _=>?_
   split
   ·exact Xw
   ·exact .oNo
  ·rename_i hd hs
   exfalso
   simp only[kd]at hk;cases hb:xr src dst with
   |true=>simp only[hb]at hk;rcases hk with hk|⟨_,hk⟩<;>cases hk
   |false=>
    have h1:MR ty src=false:=by unfold MR;rw[hsi];simp only[hs]
    have h2:HX ty dst=true:=by unfold HX;rw[hdi];simp only[hd]
    simp only[hb,h1,h2]at hk;rcases hk with hk|⟨_,hk⟩<;>cases hk
  ·rename_i hs hd
   split
   ·rename_i hb
    exfalso
    simp only[kd,hb]at hk;rcases hk with hk|⟨_,hk⟩<;>cases hk
   ·exact .oNo
  ·exact .oNo
 |makeInterface t x=>
  refine .wTy fun ti _=>.w1 fun x=>?_
  split
  ·exact .oNo
  ·exact Xl
 |makeFunc fn a b=>
  show Kp (match cOs f a.toList,cOs f b.toList with
   |some fs,some c=>EZ fn fs c
   |_,_=>oNo)
  split
  ·exact aH
  ·exact .oNo
 |slice t x lo hi mx=>
  refine .wTy fun ti _=>.w1 fun x=>?_
  split
  ·split
   ·split
    ·exact .oNo
    ·exact .oNo
   ·exact .wTy fun ei _=>iX
   ·exact .wTy fun ei _=>S1
   ·exact .oNo
  ·exact .oNo
 |fieldAddr t x i=>
  refine .wTy fun ti _=>.w1 fun x=>?_
  split
  ·split<;>first|exact NK|exact .oNo
  ·exact .oNo
 |field t x i=>
  refine .wTy fun ti _=>.w1 fun x=>?_
  split
  ·split
   ·exact .wTy fun fi _=>.oNo
   ·exact .oNo
  ·exact .oNo
 |indexAddr t x i=>
  refine .wTy fun ti _=>.w2 fun x y=>?_
  split
  ·exact .wTy fun fi _=>S3
  ·exact .wTy fun fi _=>ib
  ·exact .oNo
 |index t x i=>
  refine .wTy fun ti _=>.w2 fun x y=>?_
  split
  ·exact .wTy fun fi _=>.oNo
  ·exact Xg
  ·exact .oNo
 |lookup t x i ok=>
  refine .wTy fun ti _=>.w2 fun x y=>?_
  split
  ·exact .wTy fun ei _=>.wZ (.wZero fun z=>.wKey fun ks=>S5)
  ·exact .oNo
 |extract t i=>exact .w1 fun t=>Qt
 |sliceToArrayPointer t x=>
  refine .wTy fun ti _=>?_
  split
  ·exact .w1 fun x=>iQ
  ·exact .oNo
 |call c=>
  simp only[kd]at hk;cases hc:c.callee with
  |builtin b=>
   show Kp (match cOs f c.args.toList with
    |some args=>match c.callee with
     |.builtin b=>J8 ty b c.argTypes.toList args
     |.value g=>match g with
      |.func g=>AU g args
      |g=>w1 f g fun g=>EA g args
     |.invoke recv name=>w1 f recv fun x=>oNo
    |none=>oNo)
   split
   ·rename_i args ha
    simp only[hc];cases b with
    |len=>
     unfold J8;split<;>rename_i h1<;>first|(cases h1;done)|skip
     all_goals (try (exact .oNo))
     split
     ·refine .wTy fun ti _=>?_
      split
      ·exact aJ
      ·exact aL
      ·exact .oNo
      ·exact Mj
      ·exact .oNo
     ·exact .oNo
    |min=>
     unfold J8;split<;>rename_i h1<;>first|(cases h1;done)|exact ij|exact .oNo
    |max=>
     unfold J8;split<;>rename_i h1<;>first|(cases h1;done)|exact ig|exact .oNo
    |_=>
     exfalso
     simp only[hc]at hk;cases hl:c.args.toList with
     |nil=>simp only[hl]at hk;rcases hk with hk|⟨_,hk⟩<;>cases hk
     |cons _ _=>simp only[hl]at hk;rcases hk with hk|⟨_,hk⟩<;>cases hk
   ·exact .oNo
  |_=>
   exfalso
   simp only[hc]at hk;rcases hk with hk|⟨_,hk⟩<;>cases hk
 |_=>first|exact .oNo|(exfalso;rcases hk with hk|⟨_,hk⟩<;>cases hk)
end
end
noncomputable section
open Go
abbrev Rho:=Nat->Option IN
def AEW(A:List Nat)(σ:Sg)(e:Env):Rho:=fun t=>match PN A σ (.tmp t)with
 |some s=>some (LO s e)
 |none=>none
def evR(ρ:Rho):yN->Option IN
 |.tmp t=>ρ t
 |.const v=>if FZ v then some v else none
 |.func g=>some (.func (.func g) #[] #[])
 |.global _=>none
theorem ET(A:List Nat)(σ:Sg)(e:Env)(t:Nat):AEW A σ e t=match Da t σ with
  |some s=>some (LO s e)
  |none=>match memN t A with
   |true=>none
   |false=>match yu t 240 with
    |true=>some (J t e)
    |false=>none:=by
 show(match PN A σ (.tmp t)with|some s=>some (LO s e)|none=>none)=_;show(match (match Da t σ with|some s=>some s|none=>match memN t A with|true=>none|false=>match yu t 240 with|true=>some (Src.s t)|false=>none)with|some s=>some (LO s e)|none=>none)=_;cases Da t σ with
 |some s=>rfl
 |none=>
  cases memN t A with
  |true=>rfl
  |false=>cases yu t 240<;>rfl
theorem bh{A:List Nat}{σ:Sg}{x:yN}{s:Src}(h:PN A σ x=some s)(e:Env):evR (AEW A σ e) x=some (LO s e):=by
 cases x with
 |tmp t=>show(match PN A σ (.tmp t)with|some s=>some (LO s e)|none=>none)=_;rw[h]
 |const v=>
  have h:(match FZ v with|true=>some (Src.c v)|false=>none)=some s:=h;cases hp:FZ v with
  |true=>rw[hp]at h;cases h;show(if FZ v then some v else none)=_;rw[if_pos hp];rfl
  |false=>rw[hp]at h;cases h
 |func g=>cases h;rfl
 |global _=>cases h
theorem oB{f:Fr}{x:yN}{y:O}(h:cO f x=some y):∃ s,PN f.A f.σ x=some s/\y=LO s:=by
 unfold cO at h;split at h
 ·rename_i s hs;cases h;exact⟨s,hs,rfl⟩
 ·cases h
theorem Fk{A:List Nat}{σ:Sg}{x:yN}{y:O}(h:cO ⟨A,σ⟩ x=some y)(e:Env):evR (AEW A σ e) x=some (y e):=by
 obtain⟨s,hs,rfl⟩:=oB h;exact bh hs e
theorem Ms{φ:Phi}{v:IN}(h:FZ v=true):AEE φ v v:=by
 unfold FZ at h;split at h
 ·rename_i cs
  exact .agg (l:=cs.toList) (l':=cs.toList) (.plain h)
 ·exact .plain h
structure AFV (A:List Nat)(σ:Sg):Prop where
 mem:∀ p∈σ,memN p.1 A=true
 nodup:(σ.map (·.1)).Nodup
 lt:∀ p∈σ,∀ n,p.2=.s n->n<240
theorem AFV.nil(A:List Nat):AFV A [] where
 mem:=fun p hp=>by cases hp
 nodup:=List.nodup_nil
 lt:=fun p hp=>by cases hp
theorem FL{a b:Nat}(h:xr a b=false):a≠b:=fun e=>by rw[e,zU]at h;cases h
theorem Ef:∀ {σ:Sg} {t:Nat} {s:Src},Da t σ=some s->(t,s)∈σ
 |(d,s')::l,t,s,h=>by
  unfold Da at h;split at h
  ·rename_i hb
   cases h;have:=Az.1 hb;subst this;exact xa
  ·exact xZ _ (Ef h)
theorem FF:∀ {σ:Sg} {t:Nat} {s:Src},(σ.map (·.1)).Nodup->(t,s)∈σ->Da t σ=some s
 |(d,s')::l,t,s,hn,h=>by
  unfold Da;rw[AAx,AAW]at hn;rcases xz.1 h with h|h
  ·cases h
   rw[zU]
  ·have:d≠t:=by
    intro e;subst e;exact hn.1 (yz.2 ⟨_,h,rfl⟩)
   have hb:xr d t=false:=by
    cases hb:xr d t with
    |true=>exact absurd (Az.1 hb) this
    |false=>rfl
   rw[hb];exact FF hn.2 h
theorem Ed:∀ {σ:Sg} {d:Nat},(Fo d σ).Sublist σ/\∀ p∈Fo d σ,p.2≠.s d
 |[],d=>⟨.slnil,fun p hp=>by cases hp⟩
 |(t,.s n)::l,d=>by
  obtain⟨h1,h2⟩:=Ed (σ:=l) (d:=d);unfold Fo;split
  ·exact⟨h1.cons _,h2⟩
  ·rename_i hb
   refine⟨h1.cons_cons _,fun p hp=>?_⟩;rcases xz.1 hp with rfl|hp
   ·intro e;cases e;exact FL hb rfl
   ·exact h2 p hp
 |(t,.c v)::l,d=>by
  obtain⟨h1,h2⟩:=Ed (σ:=l) (d:=d);unfold Fo;refine⟨h1.cons_cons _,fun p hp=>?_⟩;rcases xz.1 hp with rfl|hp
  ·intro e;cases e
  ·exact h2 p hp
theorem Ga:∀ {σ:Sg} {d:Nat},(Ff d σ).Sublist σ/\∀ p∈Ff d σ,p.1≠d
 |[],d=>⟨.slnil,fun p hp=>by cases hp⟩
 |(t,s)::l,d=>by
  obtain⟨h1,h2⟩:=Ga (σ:=l) (d:=d);unfold Ff;split
  ·exact⟨h1.cons _,h2⟩
  ·rename_i hb
   refine⟨h1.cons_cons _,fun p hp=>?_⟩;rcases xz.1 hp with rfl|hp
   ·exact FL hb
   ·exact h2 p hp
theorem AFV.sub{A:List Nat}{σ σ':Sg}(h:AFV A σ)(hs:σ'.Sublist σ):AFV A σ':=
 ⟨fun p hp=>h.mem p (hs.subset hp),(hs.map (·.1)).nodup h.nodup,fun p hp=>h.lt p (hs.subset hp)⟩
theorem AFV.alias{A:List Nat}{σ:Sg}(h:AFV A σ){d:Nat}(hd:memN d A=true){s:Src}(hs:∀ n,s=.s n->n<240):AFV A ((d,s)::Ff d σ):=by
 have h':=h.sub (Ga (d:=d)).1;refine⟨fun p hp=>?_,?_,fun p hp=>?_⟩
 ·rcases xz.1 hp with rfl|hp
  ·exact hd
  ·exact h'.mem p hp
 rotate_left
 ·rcases xz.1 hp with rfl|hp
  ·exact hs
  ·exact h'.lt p hp
 ·rw[AAx,AAW]
  refine⟨fun hm=>?_,h'.nodup⟩;obtain⟨p,hp,e⟩:=yz.1 hm;exact(Ga (d:=d)).2 p hp e
theorem jX{A:List Nat}{σ:Sg}{e:Env}(hS:AFV A σ){d:Nat}(hd:memN d A=false)(hlt:d<240)(v:IN){t:Nat}{u:IN}
  (h:AEW A (Fo d σ) (Env.set d v e) t=some u):if t=d then u=v else AEW A σ e t=some u:=by
 rw[ET]at h;cases hf:Da t (Fo d σ)with
 |some s=>
  simp only[hf]at h;cases h;have hm:=Ef hf;have hm':=Ed.1.subset hm;have hne:=(Ed (σ:=σ) (d:=d)).2 _ hm;have hA:=hS.mem _ hm';have ht:t≠d:=by intro e;subst e;simp only at hA;rw[hd]at hA;cases hA
  rw[if_neg ht,ET,FF hS.nodup hm'];simp only
  congr 1
  cases s with
  |c v=>rfl
  |s n=>
   have hn:n≠d:=fun e=>hne (by rw[e])
   show J n e=J n (Env.set d v e);have h3:n<240:=hS.lt _ hm' n rfl;rw[C9 n h3,C9 n h3,Env.AEQ _ _ _ _ hlt h3,if_neg hn]
 |none=>
  simp only[hf]at h;cases hm:memN t A with
  |true=>simp only[hm]at h;cases h
  |false=>
   simp only[hm]at h;cases hb:yu t 240 with
   |false=>simp only[hb]at h;cases h
   |true=>
    simp only[hb]at h;have h3:=Bb.1 hb;cases h;have hg:J t (Env.set d v e)=if t=d then v else e.get t:=by
     rw[C9 t h3,Env.AEQ _ _ _ _ hlt h3]
    rw[hg];split
    ·rfl
    ·have hf2:Da t σ=none:=by
      cases hf2:Da t σ with
      |none=>rfl
      |some s=>
       have:=hS.mem _ (Ef hf2);simp only at this;rw[hm]at this;cases this
     rw[ET];simp only[hf2,hm,hb];rw[C9 t h3]
theorem X3{A:List Nat}{σ:Sg}{e:Env}(hS:AFV A σ){d:Nat}(hd:memN d A=true)(s:Src){t:Nat}{u:IN}
  (h:AEW A ((d,s)::Ff d σ) e t=some u):if t=d then u=LO s e else AEW A σ e t=some u:=by
 rw[ET]at h;by_cases ht:t=d
 ·rw[if_pos ht]
  subst ht;have:Da t ((t,s)::Ff t σ)=some s:=by unfold Da;rw[zU]
  simp only[this]at h;cases h;rfl
 ·rw[if_neg ht]
  have hb:xr d t=false:=by
   cases hb:xr d t with
   |true=>exact absurd (Az.1 hb).symm ht
   |false=>rfl
  have h1:Da t ((d,s)::Ff d σ)=Da t (Ff d σ):=by conv=>lhs;unfold Da;rw[hb]
  have h2:Da t (Ff d σ)=Da t σ:=by
   cases hf:Da t (Ff d σ)with
   |some s'=>exact(FF hS.nodup (Ga.1.subset (Ef hf))).symm
   |none=>
    cases hf2:Da t σ with
    |none=>rfl
    |some s'=>
     have hm:=Ef hf2;have:∀ {σ:Sg},(t,s')∈σ->(t,s')∈Ff d σ:=by
      intro σ hm
      induction σ with
      |nil=>cases hm
      |cons p l ih=>
       obtain⟨a,b⟩:=p;unfold Ff;rcases xz.1 hm with h|h
       ·cases h
        have hb2:xr t d=false:=by
         cases hb:xr t d with
         |true=>exact absurd (Az.1 hb) ht
         |false=>rfl
        rw[hb2];exact xa
       ·split
        ·exact ih h
        ·exact xZ _ (ih h)
     have:=FF (hS.sub (Ga (d:=d)).1).nodup (this hm);rw[hf]at this;cases this
  rw[h1,h2]at h;rw[ET];exact h
structure Eff (T:Nat->Prop)(φ:Phi)(h:Hp)(w:yQ)(φ':Phi)(h':Hp)(w':yQ):Prop where
 le:φ.Le φ'
 new:∀ i p,φ' i=some p->φ i=some p\/h.next<=i
 next:h.next<=h'.next
 size:w.heap.size<=w'.heap.size
 tape:w'.tape=w.tape
 os:w'.os=w.os
 output:w'.output=w.output
 frame:∀ k,k<w.heap.size->(∀ i p,φ i=some p->p.inp=false->T i->Live h i->p.blk≠k)->w'.heap[k]? =w.heap[k]?
 back:∀ i p,φ' i=some p->Live h' i->p.blk<w.heap.size->∃ j q,φ j=some q/\Live h j/\q.blk=p.blk/\q.inp=p.inp/\(j=i\/T j)
 kept:∀ i,i<h.next->¬ T i->h'.bl.get i=h.bl.get i
 shape:∀ i,i<h.next->AET (h.bl.get i) (h'.bl.get i)
 only:∀ i,i<h.next->φ i=none->h'.bl.get i=h.bl.get i
 all:∀ i,h.next<=i->i<h'.next->∃ p,φ' i=some p
theorem Evo.eff{φ ψ:Phi}{h h':Hp}{w w':yQ}(ev:Evo φ h w ψ h' w'):Eff (fun c=>h'.low<=c/\c<=h'.high) φ h w ψ h' w' where
 le:=ev.le
 new:=ev.new
 next:=ev.next
 size:=ev.size
 tape:=ev.tape
 os:=ev.os
 output:=ev.output
 frame:=fun k hk hf=>ev.frame k hk fun i p e hn h1 h2 hl=>hf i p e hn ⟨h1,h2⟩ hl
 back:=ev.back
 kept:=fun i hi ht=>ev.kept i hi (by
  rcases yG i h'.low with h|h
  ·exact .inl h
  ·rcases yG h'.high i with h2|h2
   ·exact .inr h2
   ·exact absurd ⟨h,h2⟩ ht)
 shape:=ev.shape
 only:=ev.only
 all:=ev.all
theorem Eff.AFb{T:Nat->Prop}{φ ψ:Phi}{h h' g g':Hp}{w w':yQ}(ev:Eff T φ h w ψ h' w')(h1:g.bl=h.bl)(h2:g.next=h.next)(h3:g'.bl=h'.bl)(h4:g'.next=h'.next):Eff T φ g w ψ g' w' where
 le:=ev.le
 new:=by rw[h2];exact ev.new
 next:=by rw[h2,h4];exact ev.next
 size:=ev.size
 tape:=ev.tape
 os:=ev.os
 output:=ev.output
 frame:=by unfold Live;rw[h1];exact ev.frame
 back:=by unfold Live;rw[h1,h3];exact ev.back
 kept:=by rw[h1,h2,h3];exact ev.kept
 shape:=by rw[h1,h2,h3];exact ev.shape
 only:=by rw[h1,h2,h3];exact ev.only
 all:=by rw[h2,h4];exact ev.all
theorem Eff.evo{T:Nat->Prop}{φ ψ:Phi}{h h':Hp}{w w':yQ}(ev:Eff T φ h w ψ h' w')(hT:∀ c,T c->h'.low<=c/\c<=h'.high)(hl:h'.low<=h.low)(hh:h.high<=h'.high):Evo φ h w ψ h' w' where
 le:=ev.le
 new:=ev.new
 next:=ev.next
 size:=ev.size
 tape:=ev.tape
 os:=ev.os
 output:=ev.output
 frame:=fun k hk hf=>ev.frame k hk fun i p e hn ht hl=>hf i p e hn (hT i ht).1 (hT i ht).2 hl
 back:=fun i p e hl hp=>by
  obtain⟨j,q,e1,e2,e3,e5,e4⟩:=ev.back i p e hl hp;exact⟨j,q,e1,e2,e3,e5,e4.imp id (hT j)⟩
 kept:=fun i hi ho=>ev.kept i hi fun ht=>by have:=hT i ht;omega
 low:=hl
 high:=hh
 shape:=ev.shape
 only:=ev.only
 all:=ev.all
theorem AEI.AFb{ty:TTy}{φ:Phi}{E:Nat->Prop}{h g:Hp}{w:yQ}(H:AEI ty φ E h w)(h1:g.bl=h.bl)(h2:g.next=h.next):AEI ty φ E g w where
 dom:=by rw[h2];exact H.dom
 inj:=by unfold Live;rw[h1];exact H.inj
 row:=by rw[h1];exact H.row
 fresh:=by rw[h1,h2];exact H.fresh
 kind:=by rw[h1];exact H.kind
 inp:=H.inp
def TouchR(ty:TTy)(ρ:Rho)(E:Nat->Prop)(op:Op):Prop:=match kd ty op with
 |.p=>True
 |.a=>True
 |.r x=>∀ u,evR ρ x=some u->∀ b,AEh u=.ok b->¬ E b
 |.w _=>∀ b,¬ E b
 |.q=>∀ b,¬ E b
theorem Eff.cut{T:Nat->Prop}{φ ψ:Phi}{h h':Hp}{w w':yQ}(ev:Eff T φ h w ψ h' w')(hd:∀ i p,φ i=some p->i<h.next):Eff (fun c=>T c/\c<h.next) φ h w ψ h' w' where
 le:=ev.le
 new:=ev.new
 next:=ev.next
 size:=ev.size
 tape:=ev.tape
 os:=ev.os
 output:=ev.output
 frame:=fun k hk hf=>ev.frame k hk fun i p e hn ht hl=>hf i p e hn ⟨ht,hd i p e⟩ hl
 back:=fun i p e hl hp=>by
  obtain⟨j,q,e1,e2,e3,e5,e4⟩:=ev.back i p e hl hp;exact⟨j,q,e1,e2,e3,e5,e4.imp id fun ht=>⟨ht,hd j q e1⟩⟩
 kept:=fun i hi ho=>ev.kept i hi fun ht=>ho ⟨ht,hi⟩
 shape:=ev.shape
 only:=ev.only
 all:=ev.all
theorem Eff.refl(φ:Phi)(h:Hp)(w:yQ):Eff (fun _=>False) φ h w φ h w where
 le:=.refl φ
 new:=fun _ _ e=>.inl e
 next:=IT _
 size:=IT _
 tape:=rfl
 os:=rfl
 output:=rfl
 frame:=fun _ _ _=>rfl
 back:=fun i p e hl _=>⟨i,p,e,hl,rfl,rfl,.inl rfl⟩
 kept:=fun _ _ _=>rfl
 shape:=fun _ _=>.refl _
 only:=fun _ _ _=>rfl
 all:=fun _ h1 h2=>absurd h2 (ABp.2 h1)
def AIk(ty:TTy)(o:AAA)(ah:AEk):Prop:=(kd ty o.op=.p\/∃ x,kd ty o.op=.r x)\/(ah≠.plain/\∀ old x xs,ah≠.chk old x xs)
structure Core (P:yw)(ty:TTy)(o:AAA)(ah:AEk)(ρ:Rho)(h h':Hp)(v:IN)(T:Nat->Prop):Prop where
 AGt:∀ (φ:Phi) (E:Nat->Prop) (w:yQ) (a:Act),AEI ty φ E h w->(∀ x∈o.op.operands.toList,∀ u,evR ρ x=some u->AEE φ u (a.eval x))->TouchR ty ρ E o.op->
  ∀ (next:Act->yQ->Prop) (Q:Exit->Act->yQ->Prop),(∀ ψ v' w',AEE ψ v v'->AEI ty ψ E h' w'->Eff T φ h w ψ h' w'->Evo φ h w ψ h' w'->next (a.put o.dst v') w')->o.wp P a w next Q
 AGe:AIk ty o ah->h'.low<=h.low/\h.high<=h'.high/\(∀ c,T c->h'.low<=c/\c<=h'.high)/\h'.mark=h.mark
 tlt:∀ c,T c->c<h.next
 tp:(kd ty o.op=.p\/∃ x,kd ty o.op=.r x)->(∀ c,¬ T c)/\h'=h
 AER:ah=.quiet .AER->∀ c,¬ T c
 weak:ah=.quiet .weak->∀ c,T c->h.mark<=c
 wr:∀ x xs,ah=.wr x xs->∀ c,T c->∃ u,evR ρ x=some u/\AEh u=.ok c
structure AHR (ah:AEk)(ρ:Rho)(h:Hp):Prop where
 wrx:∀ x xs,ah=.wr x xs->∀ y∈xs,∀ u u' b,evR ρ x=some u->evR ρ y=some u'->AEh u=.ok b->AEh u'≠.ok b
 chk:∀ old x xs,ah=.chk old x xs->∀ y∈xs,∀ u u' b,evR ρ x=some u->evR ρ y=some u'->AEh u=.ok b->AEh u'≠.ok b
 old:∀ x xs,ah=.chk true x xs->∀ u b,evR ρ x=some u->AEh u=.ok b->b<h.mark
 known:∀ x xs,(ah=.wr x xs\/∃ old,ah=.chk old x xs)->(∃ u,evR ρ x=some u)/\∀ y∈xs,∃ u,evR ρ y=some u
structure SF (P:yw)(ty:TTy)(ops:List AAA)(o:AAA)(ah:AEk)(ρ ρ':Rho)(h h':Hp)(v:IN)(run:Bool)(T:Nat->Prop):Prop where
 slot:∀ t u,ρ' t=some u->if o.dst=some t then u=v else ρ t=some u
 grd:match o.guard with
  |none=>run=true
  |some (g,want)=>∃ og d c,ops[g]? =some og/\og.dst=some d/\ρ d=some c/\((∃ b,c=.bool b/\run=(want == b))\/(∃ l,c=.tuple l/\run=false))
 side:kd ty o.op≠.p->AHR ah ρ h
 core:(run=true/\Core P ty o ah ρ h h' v T)\/(run=false/\v=AED/\h'=h/\∀ c,¬ T c)
section
variable {P:yw}{ty:TTy}{F:AEA}
theorem MA(hT:DE P ty)(hF:DX P ty F){A:List Nat}{σ:Sg}{e:Env}{o:AAA}{g g':Hp}{v:IN}(hr:opC ty ⟨A,σ⟩ o.op F e g=.ok v g')(φ:Phi)(E:Nat->Prop)(w:yQ)(a:Act)(H:AEI ty φ E g w)
  (hn:∀ x∈o.op.operands.toList,∀ u,evR (AEW A σ e) x=some u->AEE φ u (a.eval x))(ht:TouchR ty (AEW A σ e) E o.op):FA P ty φ E g v g' o a w:=by
 refine rU hT hF H (f:=⟨A,σ⟩) (e:=e) (F:=F) (fun x hx y hy=>hn x hx _ (Fk hy e)) ?_ hr;unfold HF;unfold TouchR at ht;cases hk:kd ty o.op with
 |p=>trivial
 |a=>trivial
 |r x=>rw[hk]at ht;exact fun y hy b hb=>ht _ (Fk hy e) b hb
 |w x=>rw[hk]at ht;exact ht
 |q=>rw[hk]at ht;exact ht
def Jp(h:Hp):Hp:={next:=h.next,low:=h.next,high:=0,mark:=h.mark,bl:=h.bl}
theorem L4(hT:DE P ty)(hF:DX P ty F){A:List Nat}{σ:Sg}{e:Env}{o:AAA}{ah:AEk}(hah:ah=.plain\/∃ old x xs,ah=.chk old x xs){h h':Hp}{v:IN}(hr:opC ty ⟨A,σ⟩ o.op F e h=.ok v h'):∃ T,Core P ty o ah (AEW A σ e) h h' v T:=by
 have hns:ah≠.quiet .AER:=by rcases hah with rfl|⟨_,_,_,rfl⟩<;>exact fun h=>by cases h
 have hnw:ah≠.quiet .weak:=by rcases hah with rfl|⟨_,_,_,rfl⟩<;>exact fun h=>by cases h
 have hnr:∀ x xs,ah≠.wr x xs:=by rcases hah with rfl|⟨_,_,_,rfl⟩<;>exact fun _ _ h=>by cases h
 have hnm:¬ (ah≠.plain/\∀ old x xs,ah≠.chk old x xs):=by
  rcases hah with rfl|⟨_,_,_,rfl⟩
  ·exact fun h=>h.1 rfl
  ·exact fun h=>h.2 _ _ _ rfl
 by_cases hk:kd ty o.op=.p\/∃ x,kd ty o.op=.r x
 ·have K:=rT (ty:=ty) (f:=⟨A,σ⟩) hk F e
  have hh:=K.same hr;have hr2:=K.at hr (Jp h) rfl;subst hh;refine⟨fun _=>False,{AGt:=fun φ E w a H hn ht next Q hnx=>?_,AGe:=fun _=>⟨IT _,IT _,fun _ h=>h.elim,rfl⟩,tlt:=fun _ h=>h.elim,tp:=fun _=>⟨fun _ h=>h,rfl⟩,AER:=fun h=>absurd h hns,weak:=fun h=>absurd h hnw,wr:=fun _ _ h=>absurd h (hnr _ _)}⟩;have key:∀ ψ v' w',AEE ψ v v'->AEI ty ψ E (Jp h') w'->Evo φ (Jp h') w ψ (Jp h') w'->Eff (fun _=>False) φ h' w ψ h' w':=?_
  ·exact MA hT hF hr2 φ E w a (H.AFb rfl rfl) hn ht next Q fun ψ v' w' hv H' ev=>hnx ψ v' w' hv (H'.AFb rfl rfl) (key ψ v' w' hv H' ev) ((key ψ v' w' hv H' ev).evo (fun _ h=>h.elim) (IT _) (IT _))
  intro ψ v' w' hv H' ev;have e1:Eff (fun c=>h'.next<=c/\c<=0) φ h' w ψ h' w':=ev.eff.AFb rfl rfl rfl rfl;have hd:∀ i p,φ i=some p->i<h'.next:=fun i p e=>(H.dom i p e).1
  have e2:=e1.cut hd;exact {e2 with
   frame:=fun k hk hf=>e2.frame k hk fun i p e hn ht=>by omega
   back:=fun i p e hl hp=>by
    obtain⟨j,q,e1,e2,e3,e5,e4⟩:=e2.back i p e hl hp;exact⟨j,q,e1,e2,e3,e5,e4.imp id fun ht=>by omega⟩
   kept:=fun i hi _=>e2.kept i hi fun ht=>by omega}
 ·refine⟨fun c=>(h'.low<=c/\c<=h'.high)/\c<h.next,{AGt:=fun φ E w a H hn ht next Q hnx=>?_,AGe:=fun h=>absurd h (fun h=>h.elim hk hnm),tlt:=fun _ h=>h.2,tp:=fun h=>absurd h hk,AER:=fun h=>absurd h hns,weak:=fun h=>absurd h hnw,wr:=fun _ _ h=>absurd h (hnr _ _)}⟩
  exact MA hT hF hr φ E w a H hn ht next Q fun ψ v' w' hv H' ev=>hnx ψ v' w' hv H' (ev.eff.cut fun i p e=>(H.dom i p e).1) ev
theorem JC(hT:DE P ty)(hF:DX P ty F){A:List Nat}{σ:Sg}{e:Env}{o:AAA}{ah:AEk}{h h' g':Hp}{v:IN}(hr:opC ty ⟨A,σ⟩ o.op F e (Jp h)=.ok v g')
  (h1:h'.bl=g'.bl)(h2:h'.next=g'.next)(h3:h'.low=min h.low g'.low)(h4:h'.high=max h.high g'.high)(h5:h'.mark=h.mark)
  (hs:ah=.quiet .AER->h.next<=g'.low)(hw:ah=.quiet .weak->h.mark<=g'.low)
  (hx:∀ x xs,ah=.wr x xs->∀ c,g'.low<=c->c<=g'.high->c<h.next->∃ u,evR (AEW A σ e) x=some u/\AEh u=.ok c)(hnk:¬ (kd ty o.op=.p\/∃ x,kd ty o.op=.r x)):∃ T,Core P ty o ah (AEW A σ e) h h' v T:=by
 refine⟨fun c=>(g'.low<=c/\c<=g'.high)/\c<h.next,{AGt:=fun φ E w a H hn ht next Q hnx=>?_,AGe:=fun _=>⟨by omega,by omega,fun c h=>by omega,h5⟩,tlt:=fun _ h=>h.2,tp:=fun h=>absurd h hnk,AER:=fun h c hc=>?_,weak:=fun h c hc=>?_,wr:=fun x xs h c hc=>hx x xs h c hc.1.1 hc.1.2 hc.2}⟩
 ·refine MA hT hF hr φ E w a (H.AFb rfl rfl) hn ht next Q fun ψ v' w' hv H' ev=>?_
  have e1:Eff (fun c=>g'.low<=c/\c<=g'.high) φ h w ψ h' w':=ev.eff.AFb rfl rfl h1 h2;exact hnx ψ v' w' hv (H'.AFb h1 h2) (e1.cut fun i p e=>(H.dom i p e).1) (e1.evo (fun c h=>by omega) (by omega) (by omega))
 ·have:=hs h;omega
 ·have:=hw h;omega
end
end
noncomputable section
open Go
section
variable {P:yw}{ty:TTy}{F:AEA}
structure AGf (ty:TTy)(o:AAA)(ah:AEk):Prop where
 quiet:∀ m,ah=.quiet m->¬ (kd ty o.op=.p\/∃ x,kd ty o.op=.r x)
 wr:∀ x xs,ah=.wr x xs->kd ty o.op=.w x
 chk:∀ old x xs,ah=.chk old x xs->kd ty o.op=.r x
theorem AGf.plain(ty:TTy)(o:AAA):AGf ty o .plain:=⟨(fun _ h=>by cases h),(fun _ _ h=>by cases h),(fun _ _ _ h=>by cases h)⟩
theorem J9{b:Nat}{e:Env}:∀ {rs:List (Env->IN)},DA b e rs=true->∀ g∈rs,AEh (g e)≠.ok b
 |[],_,g,hg=>by cases hg
 |x::l,h,g,hg=>by
  unfold DA at h;cases hb:AEh (x e)with
  |no=>
   rw[hb]at h;rcases xz.1 hg with rfl|hg
   ·rw[hb];exact fun h=>by cases h
   ·exact J9 h g hg
  |ok a=>
   rw[hb]at h;simp only at h;cases hq:xr a b with
   |true=>rw[hq]at h;cases h
   |false=>
    rw[hq]at h;rcases xz.1 hg with rfl|hg
    ·rw[hb];exact fun h=>by cases h;exact FL hq rfl
    ·exact J9 h g hg
theorem Ts{w:Env->IN}{rs:List (Env->IN)}{k:C}{e:Env}{h:Hp}{X:X}(hr:Ci w rs k F e h=X)(hn:X≠.no):k F e h=X/\∀ b,AEh (w e)=.ok b->∀ g∈rs,AEh (g e)≠.ok b:=by
 unfold Ci at hr;cases hb:AEh (w e)with
 |no=>rw[hb]at hr;exact⟨hr,fun b h=>by cases h⟩
 |ok b=>
  rw[hb]at hr;simp only at hr;cases hc:DA b e rs with
  |false=>rw[hc]at hr;exact absurd hr.symm hn
  |true=>rw[hc]at hr;exact⟨hr,fun b' h=>by cases h;exact J9 hc⟩
theorem dw{x:O}{k:C}{e:Env}{h:Hp}{X:X}(hr:EI x k F e h=X)(hn:X≠.no):k F e h=X/\∀ b,AEh (x e)=.ok b->b<h.mark:=by
 unfold EI at hr;cases hb:AEh (x e)with
 |no=>rw[hb]at hr;exact⟨hr,fun b h=>by cases h⟩
 |ok b=>
  rw[hb]at hr;simp only at hr;cases hc:yu b h.mark with
  |false=>rw[hc]at hr;exact absurd hr.symm hn
  |true=>rw[hc]at hr;exact⟨hr,fun b' h=>by cases h;exact Bb.1 hc⟩
theorem I5{f:Fr}:∀ {l:List yN} {ys:List O},cOs f l=some ys->∀ x∈l,∃ y,cO f x=some y/\y∈ys
 |[],ys,h,x,hx=>by cases hx
 |z::l,ys,h,x,hx=>by
  unfold cOs at h;split at h
  ·rename_i y hy
   split at h
   ·rename_i r hr
    cases h;rcases xz.1 hx with rfl|hx
    ·exact⟨y,hy,xa⟩
    ·obtain⟨y',h1,h2⟩:=I5 hr x hx
     exact⟨y',h1,xZ _ h2⟩
   ·cases h
  ·cases h
theorem Pm{h g' h':Hp}{v u:IN}(hr:Db h v g'=.ok u h'):u=v/\h'.bl=g'.bl/\h'.next=g'.next/\h'.low=min h.low g'.low/\h'.high=max h.high g'.high/\h'.mark=h.mark:=by
 unfold Db at hr;rw[Ap,Ap,BW,B3]at hr;cases hr;exact⟨rfl,rfl,rfl,rfl,rfl,rfl⟩
theorem AHR.none{ah:AEk}{ρ:Rho}{h:Hp}(h1:∀ x xs,ah≠.wr x xs)(h2:∀ old x xs,ah≠.chk old x xs):AHR ah ρ h where
 wrx:=fun x xs e=>absurd e (h1 x xs)
 chk:=fun old x xs e=>absurd e (h2 old x xs)
 old:=fun x xs e=>absurd e (h2 true x xs)
 known:=fun x xs e=>by
  rcases e with e|⟨old,e⟩
  ·exact absurd e (h1 x xs)
  ·exact absurd e (h2 old x xs)
theorem Ln(hT:DE P ty)(hF:DX P ty F){A:List Nat}{σ:Sg}{e:Env}{h:Hp}{o:AAA}{ah:AEk}(hA:AGf ty o ah){kc:OpF->C}{X:X}(hr:HG ⟨A,σ⟩ ah (opC ty ⟨A,σ⟩ o.op) kc F e h=X)(hn:X≠.no):
  ∃ p,kc p F e h=X/\(∀ v h',p F e h=.ok v h'->∃ T,Core P ty o ah (AEW A σ e) h h' v T)/\AHR ah (AEW A σ e) h:=by
 cases ah with
 |plain=>exact⟨_,hr,fun v h' hp=>L4 hT hF (.inl rfl) hp,.none (fun _ _ h=>by cases h) (fun _ _ _ h=>by cases h)⟩
 |quiet m=>
  refine⟨_,hr,fun v h' hp=>?_,.none (fun _ _ h=>by cases h) (fun _ _ _ h=>by cases h)⟩;have hk:=hA.quiet m rfl;unfold Ae at hp;have hp:(match opC ty ⟨A,σ⟩ o.op F e (Jp h)with|.ok v h'=>bif qOk m h h'.low then Db h v h' else .no|.no=>.no)=.ok v h':=hp;cases hq:opC ty ⟨A,σ⟩ o.op F e (Jp h)with
  |no=>rw[hq]at hp;cases hp
  |ok u g'=>
   rw[hq]at hp;obtain⟨hc,hp⟩:=Bx hp;obtain⟨rfl,h1,h2,h3,h4,h5⟩:=Pm hp;refine JC hT hF hq h1 h2 h3 h4 h5 (fun e=>?_) (fun e=>?_) (fun _ _ e=>by cases e) hk
   ·cases e;exact Au.1 hc
   ·cases e;exact Au.1 hc
 |wr x xs=>
  have hk:=hA.wr x xs rfl;unfold HG at hr;simp only at hr;cases h1:cO ⟨A,σ⟩ x with
  |none=>simp only[h1]at hr;exact absurd hr.symm hn
  |some x'=>
   cases h2:cOs ⟨A,σ⟩ xs with
   |none=>simp only[h1,h2]at hr;exact absurd hr.symm hn
   |some xs'=>
    simp only[h1,h2]at hr;obtain⟨hr,hap⟩:=Ts hr hn;refine⟨_,hr,fun v h' hp=>?_,?_⟩
    ·unfold Ja at hp
     have hp:(match opC ty ⟨A,σ⟩ o.op F e (Jp h)with|.ok v h'=>bif IZ (AEh (x' e)) h h'.low h'.high then Db h v h' else .no|.no=>.no)=.ok v h':=hp;cases hq:opC ty ⟨A,σ⟩ o.op F e (Jp h)with
     |no=>rw[hq]at hp;cases hp
     |ok u g'=>
      rw[hq]at hp;obtain⟨hc,hp⟩:=Bx hp;obtain⟨rfl,q1,q2,q3,q4,q5⟩:=Pm hp;refine JC hT hF hq q1 q2 q3 q4 q5 (fun e=>by cases e) (fun e=>by cases e) (fun y ys he c c1 c2 c3=>?_) (by rw[hk];rintro (h|⟨_,h⟩)<;>cases h);cases he;refine⟨x' e,Fk h1 e,?_⟩;unfold IZ at hc;cases hb:AEh (x' e)with
      |no=>rw[hb]at hc;have hc:=Au.1 hc;omega
      |ok b=>
       rw[hb]at hc;simp only at hc;cases hb1:xd b g'.low with
       |false=>rw[hb1]at hc;cases hc
       |true=>
        rw[hb1]at hc;have c4:=Au.1 hb1;have c5:=Au.1 hc
        congr 1;omega
    ·refine {wrx:=fun y ys he z hz u u' b hu hu' hb=>?_,chk:=fun _ _ _ h=>(by cases h),old:=fun _ _ h=>(by cases h),known:=fun y ys he=>?_}
     ·cases he
      obtain⟨z',hz1,hz2⟩:=I5 h2 z hz;rw[Fk h1 e]at hu;cases hu;rw[Fk hz1 e]at hu';cases hu';exact hap b hb z' hz2
     ·rcases he with he|⟨_,he⟩
      ·cases he
       exact⟨⟨_,Fk h1 e⟩,fun z hz=>by obtain⟨z',hz1,_⟩:=I5 h2 z hz;exact⟨_,Fk hz1 e⟩⟩
      ·cases he
 |chk old x xs=>
  unfold HG at hr;simp only at hr;cases h1:cO ⟨A,σ⟩ x with
  |none=>simp only[h1]at hr;exact absurd hr.symm hn
  |some x'=>
   cases h2:cOs ⟨A,σ⟩ xs with
   |none=>simp only[h1,h2]at hr;exact absurd hr.symm hn
   |some xs'=>
    simp only[h1,h2]at hr;have hold:Ci x' xs' (kc (opC ty ⟨A,σ⟩ o.op)) F e h=X/\(old=true->∀ b,AEh (x' e)=.ok b->b<h.mark):=by
     cases old with
     |true=>obtain⟨q1,q2⟩:=dw hr hn;exact⟨q1,fun _=>q2⟩
     |false=>exact⟨hr,fun h=>by cases h⟩
    obtain⟨hr,hap⟩:=Ts hold.1 hn;refine⟨_,hr,fun v h' hp=>L4 hT hF (.inr ⟨_,_,_,rfl⟩) hp,?_⟩;refine {wrx:=fun _ _ h=>(by cases h),chk:=fun _ y ys he z hz u u' b hu hu' hb=>?_,old:=fun y ys he u b hu hb=>?_,known:=fun y ys he=>?_}
    ·cases he
     obtain⟨z',hz1,hz2⟩:=I5 h2 z hz;rw[Fk h1 e]at hu;cases hu;rw[Fk hz1 e]at hu';cases hu';exact hap b hb z' hz2
    ·cases he
     rw[Fk h1 e]at hu;cases hu;exact hold.2 rfl b hb
    ·rcases he with he|⟨_,he⟩
     ·cases he
     ·cases he
      exact⟨⟨_,Fk h1 e⟩,fun z hz=>by obtain⟨z',hz1,_⟩:=I5 h2 z hz;exact⟨_,Fk hz1 e⟩⟩
structure Tr (P:yw)(ty:TTy)(all:List AAA)(ahs:List AEk)(l:List AAA)(ρ:Nat->Rho)(H:Nat->Hp)(V:Nat->IN)(run:Nat->Bool)(T:Nat->Nat->Prop):Prop where
 sf:∀ j o,l[j]? =some o->SF P ty all o (ahs.getD j .plain) (ρ j) (ρ (j+1)) (H j) (H (j+1)) (V j) (run j) (T j)
def Pt{α:Type}(x:α)(f:Nat->α):Nat->α
 |0=>x
 |j+1=>f j
theorem Tr.cons{all:List AAA}{ahs:List AEk}{o:AAA}{l:List AAA}{ρ:Nat->Rho}{H:Nat->Hp}{V:Nat->IN}{run:Nat->Bool}{T:Nat->Nat->Prop}(t:Tr P ty all ahs.tail l ρ H V run T)
  {ρ0:Rho}{h0:Hp}{v0:IN}{r0:Bool}{T0:Nat->Prop}(s:SF P ty all o (ahs.headD .plain) ρ0 (ρ 0) h0 (H 0) v0 r0 T0):Tr P ty all ahs (o::l) (Pt ρ0 ρ) (Pt h0 H) (Pt v0 V) (Pt r0 run) (Pt T0 T) where
 sf:=fun j o' hj=>by
  cases j with
  |zero=>
   cases hj;have:ahs.getD 0 .plain=ahs.headD .plain:=by cases ahs<;>rfl
   rw[this];exact s
  |succ j=>
   have:ahs.getD (j+1) .plain=ahs.tail.getD j .plain:=by cases ahs<;>rfl
   rw[this];exact t.sf j o' hj
theorem M4{A:List Nat}{σ:Sg}{e:Env}(hS:AFV A σ){d:Nat}(hd:memN d A=false)(hlt:d<240)(v:IN){o:AAA}(ho:o.dst=some d)(t:Nat)(u:IN)
  (h:AEW A (Fo d σ) (Env.set d v e) t=some u):if o.dst=some t then u=v else AEW A σ e t=some u:=by
 have:=jX hS hd hlt v h;rw[ho];by_cases ht:t=d
 ·rw[if_pos ht]at this;rw[if_pos (by rw[ht])];exact this
 ·rw[if_neg ht]at this;rw[if_neg (fun e=>ht (Option.some.inj e).symm)];exact this
theorem PF(hT:DE P ty)(hF:DX P ty F){A:List Nat}{all:List AAA}{k:Sg->C}:∀ (l:List AAA) (ahs:List AEk) (σ:Sg) (e:Env) (h:Hp) (X:X),(∀ j o,l[j]? =some o->AGf ty o (ahs.getD j .plain))->AFV A σ->
  Gn ty A all k ahs l σ F e h=X->X≠.no->
  ∃ (ρ:Nat->Rho) (H:Nat->Hp) (V:Nat->IN) (run:Nat->Bool) (T:Nat->Nat->Prop) (σ':Sg) (e':Env),Tr P ty all ahs l ρ H V run T/\ρ 0=AEW A σ e/\H 0=h/\ρ l.length=AEW A σ' e'/\AFV A σ'/\k σ' F e' (H l.length)=X
 |[],ahs,σ,e,h,X,_,hS,hr,_=>by
  refine⟨fun _=>AEW A σ e,fun _=>h,fun _=>AED,fun _=>true,fun _ _=>False,σ,e,⟨fun j o hj=>by cases hj⟩,rfl,rfl,rfl,hS,?_⟩;unfold Gn at hr;exact hr
 |o::l,ahs,σ,e,h,X,hA,hS,hr,hn=>by
  have hA0:AGf ty o (ahs.headD .plain):=by
   have:=hA 0 o rfl;cases ahs<;>exact this
  have hA1:∀ j o',l[j]? =some o'->AGf ty o' (ahs.tail.getD j .plain):=fun j o' hj=>by
   have:=hA (j+1) o' hj;cases ahs<;>exact this
  have fin:∀ {σ1:Sg} {e1:Env} {h1:Hp} {v:IN} {r:Bool} {T0:Nat->Prop},AFV A σ1->Gn ty A all k ahs.tail l σ1 F e1 h1=X->
    SF P ty all o (ahs.headD .plain) (AEW A σ e) (AEW A σ1 e1) h h1 v r T0->
    ∃ (ρ:Nat->Rho) (H:Nat->Hp) (V:Nat->IN) (run:Nat->Bool) (T:Nat->Nat->Prop) (σ':Sg) (e':Env),Tr P ty all ahs (o::l) ρ H V run T/\ρ 0=AEW A σ e/\H 0=h/\ρ (o::l).length=AEW A σ' e'/\AFV A σ'/\k σ' F e' (H (o::l).length)=X:=by
   intro σ1 e1 h1 v r T0 hS1 hr1 sf;obtain⟨ρ,H,V,run,T,σ',e',t,q1,q2,q3,q4,q5⟩:=PF hT hF l ahs.tail σ1 e1 h1 X hA1 hS1 hr1 hn;exact⟨_,_,_,_,_,σ',e',t.cons (by rw[q1,q2];exact sf),rfl,rfl,q3,q4,q5⟩
  unfold Gn at hr;cases hg:o.guard with
  |none=>
   cases hd:o.dst with
   |none=>
    simp only[hg,hd]at hr;obtain⟨p,hp,AFo,AFw⟩:=Ln hT hF hA0 hr hn;unfold cDo at hp;cases hq:p F e h with
    |no=>rw[hq]at hp;exact absurd hp.symm hn
    |ok v h1=>
     rw[hq]at hp;obtain⟨T0,core⟩:=AFo v h1 hq;exact fin hS hp {slot:=fun t u ht=>(by rw[hd,if_neg (by intro h;cases h)];exact ht),grd:=(by rw[hg]),side:=fun _=>AFw,core:=.inl ⟨rfl,core⟩}
   |some d=>
    simp only[hg,hd]at hr;cases hm:memN d A with
    |true=>
     simp only[hm]at hr;cases hop:o.op with
     |move x=>
      simp only[hop]at hr;cases hs:PN A σ x with
      |none=>simp only[hs]at hr;exact absurd hr.symm hn
      |some s=>
       simp only[hs]at hr;have hlt:∀ n,s=.s n->n<240:=by
        intro n hn;subst hn;cases x with
        |tmp t=>
         have hs:(match Da t σ with|some s=>some s|none=>match memN t A with|true=>none|false=>match yu t 240 with|true=>some (Src.s t)|false=>none)=some (.s n):=hs;cases hf:Da t σ with
         |some s'=>
          rw[hf]at hs;cases hs;exact hS.lt _ (Ef hf) n rfl
         |none=>
          rw[hf]at hs;simp only at hs;cases hm2:memN t A with
          |true=>rw[hm2]at hs;cases hs
          |false=>
           rw[hm2]at hs;simp only at hs;cases hb:yu t 240 with
           |false=>rw[hb]at hs;cases hs
           |true=>rw[hb]at hs;cases hs;exact Bb.1 hb
        |const v=>
         have hs:(match FZ v with|true=>some (Src.c v)|false=>none)=some (.s n):=hs;cases hp:FZ v<;>rw[hp]at hs<;>cases hs
        |func g=>cases hs
        |global g=>cases hs
       have hkp:kd ty o.op=.p:=by rw[hop];rfl
       refine fin (hS.alias hm hlt) hr (v:=LO s e) (r:=true) (T0:=fun _=>False) {slot:=fun t u ht=>?_,grd:=(by rw[hg]),side:=fun h=>absurd hkp h,core:=.inl ⟨rfl,?_⟩}
       ·have:=X3 hS hm s ht
        rw[hd];by_cases htd:t=d
        ·rw[if_pos htd]at this;rw[if_pos (by rw[htd])];exact this
        ·rw[if_neg htd]at this;rw[if_neg (fun e=>htd (Option.some.inj e).symm)];exact this
       ·refine {AGt:=fun φ E w a H hn ht next Q hnx=>?_,AGe:=fun _=>⟨IT _,IT _,fun _ h=>h.elim,rfl⟩,tlt:=fun _ h=>h.elim,tp:=fun _=>⟨fun _ h=>h,rfl⟩,AER:=fun _ _ h=>h,weak:=fun _ _ h=>h.elim,wr:=fun _ _ _ _ h=>h.elim}
        have hv:=hn x (by rw[hop];simp[Op.operands]) _ (bh hs e);have hx:execOp a.eval o=(do pure (.value (<- (pure (a.eval x):Sem IN)))):=by unfold execOp;rw[hop];rfl
        unfold Oper.wp;rw[hx,Sem.run_bind,xk,Result.andThen_ok,xk,Oper.upon_value];exact hnx φ _ w hv H (.refl _ _ _) (.refl _ _ _)
     |_=>simp only[hop]at hr;exact absurd hr.symm hn
    |false=>
     simp only[hm]at hr;cases hb:yu d 240 with
     |false=>simp only[hb]at hr;exact absurd hr.symm hn
     |true=>
      simp only[hb]at hr;have hlt:=Bb.1 hb;obtain⟨p,hp,AFo,AFw⟩:=Ln hT hF hA0 hr hn;unfold SB at hp;cases hq:p F e h with
      |no=>rw[hq]at hp;exact absurd hp.symm hn
      |ok v h1=>
       rw[hq]at hp;simp only at hp;rw[D0 d hlt]at hp;obtain⟨T0,core⟩:=AFo v h1 hq;exact fin (hS.sub Ed.1) hp {slot:=M4 hS hm hlt v hd,grd:=(by rw[hg]),side:=fun _=>AFw,core:=.inl ⟨rfl,core⟩}
  |some gw=>
   obtain⟨g,want⟩:=gw;cases hd:o.dst with
   |none=>simp only[hg,hd]at hr;exact absurd hr.symm hn
   |some d=>
    simp only[hg,hd]at hr;cases hm:memN d A with
    |true=>simp only[hm]at hr;exact absurd hr.symm hn
    |false=>
     simp only[hm]at hr;rw[GE]at hr;cases hog:all[g]? with
     |none=>rw[hog]at hr;exact absurd hr.symm hn
     |some og=>
      rw[hog]at hr;simp only at hr;cases hgd:og.dst with
      |none=>simp only[hgd]at hr;exact absurd hr.symm hn
      |some dg=>
       simp only[hgd]at hr;cases hcg:cO ⟨A,σ⟩ (.tmp dg)with
       |none=>simp only[hcg]at hr;exact absurd hr.symm hn
       |some gg=>
        simp only[hcg]at hr;cases hb:yu d 240 with
        |false=>simp only[hb]at hr;exact absurd hr.symm hn
        |true=>
         simp only[hb]at hr;have hlt:=Bb.1 hb;obtain⟨p,hp,AFo,AFw⟩:=Ln hT hF hA0 hr hn;have hρ:AEW A σ e dg=some (gg e):=Fk hcg e;unfold cG at hp;have AF5:FD d (fun e=>Gn ty A all k ahs.tail l (Fo d σ) F e h) AED e=X->(∀ r:Bool,r=false->(match o.guard with
            |none=>r=true
            |some (g,want)=>∃ og d c,all[g]? =some og/\og.dst=some d/\AEW A σ e d=some c/\((∃ b,c=.bool b/\r=(want == b))\/(∃ l,c=.tuple l/\r=false))))->
           ∃ (ρ:Nat->Rho) (H:Nat->Hp) (V:Nat->IN) (run:Nat->Bool) (T:Nat->Nat->Prop) (σ':Sg) (e':Env),Tr P ty all ahs (o::l) ρ H V run T/\ρ 0=AEW A σ e/\H 0=h/\ρ (o::l).length=AEW A σ' e'/\AFV A σ'/\k σ' F e' (H (o::l).length)=X:=by
          intro hp AJb;rw[D0 d hlt]at hp;exact fin (hS.sub Ed.1) hp (v:=AED) (r:=false) (T0:=fun _=>False) {slot:=M4 hS hm hlt AED hd,grd:=AJb false rfl,side:=fun _=>AFw,core:=.inr ⟨rfl,rfl,rfl,fun _ h=>h⟩}
         split at hp
         ·rename_i b hgb
          cases hwb:want == b with
          |true=>
           rw[hwb]at hp;simp only[cond_true]at hp;unfold SB at hp;cases hq:p F e h with
           |no=>rw[hq]at hp;exact absurd hp.symm hn
           |ok v h1=>
            rw[hq]at hp;simp only at hp;rw[D0 d hlt]at hp;obtain⟨T0,core⟩:=AFo v h1 hq;exact fin (hS.sub Ed.1) hp (r:=true) {slot:=M4 hS hm hlt v hd,grd:=(by rw[hg];exact⟨og,dg,_,hog,hgd,hρ,.inl ⟨b,hgb,hwb.symm⟩⟩),side:=fun _=>AFw,core:=.inl ⟨rfl,core⟩}
          |false=>
           rw[hwb]at hp;exact AF5 hp fun r hr=>by rw[hg];exact⟨og,dg,_,hog,hgd,hρ,.inl ⟨b,hgb,by rw[hr,hwb]⟩⟩
         ·rename_i ls hgb
          exact AF5 hp fun r hr=>by rw[hg];exact⟨og,dg,_,hog,hgd,hρ,.inr ⟨ls,hgb,hr⟩⟩
         ·exact absurd hp.symm hn
end
end
noncomputable section
open Go
abbrev nil:Nat->Prop:=fun _=>False
structure AR (N:Nat)(φ:Phi)(ρ:Rho)(a:Act):Prop where
 size:a.tmps.size=N
 defs:a.defers=[]
 rel:∀ t u,ρ t=some u->AEE φ u (a.tmps.getD t undef)
theorem AR.ev{N:Nat}{φ:Phi}{ρ:Rho}{a:Act}(h:AR N φ ρ a){x:yN}{u:IN}(hu:evR ρ x=some u):AEE φ u (a.eval x):=by
 cases x with
 |tmp t=>exact h.rel t u hu
 |const v=>
  have hu:(if FZ v then some v else none)=some u:=hu;split at hu
  ·rename_i hp;cases hu;exact Ms hp
  ·cases hu
 |func g=>cases hu;exact .func _ .nil .nil
 |global g=>cases hu
theorem Hi(a:Act)(d:Option Nat)(v:IN)(t:Nat):(a.put d v).tmps.getD t undef=if d=some t/\t<a.tmps.size then v else a.tmps.getD t undef:=by
 cases d with
 |none=>rw[if_neg (fun h=>by cases h.1)];rfl
 |some d=>
  show(a.tmps.setIfInBounds d v).getD t undef=_;rw[yp,Array.getElem?_setIfInBounds,yp];by_cases h:d=t
  ·subst h
   rw[if_pos rfl];by_cases h2:d<a.tmps.size
   ·rw[if_pos h2,if_pos ⟨rfl,h2⟩];rfl
   ·rw[if_neg h2,if_neg (fun h=>h2 h.2),Array.getElem?_eq_none (by omega)]
  ·rw[if_neg h,if_neg (fun h2=>h (Option.some.inj h2.1))]
theorem Fa(a:Act)(d:Option Nat)(v:IN):(a.put d v).tmps.size=a.tmps.size:=by
 cases d with
 |none=>rfl
 |some d=>show(a.tmps.setIfInBounds d v).size=_;simp
theorem GU(a:Act)(d:Option Nat)(v:IN):(a.put d v).defers=a.defers:=by cases d<;>rfl
theorem AR.put{N:Nat}{φ ψ:Phi}{ρ ρ':Rho}{a:Act}(h:AR N φ ρ a)(hle:φ.Le ψ){d:Option Nat}(hd:∀ t,d=some t->t<N){v v':IN}(hv:AEE ψ v v')
  (hs:∀ t u,ρ' t=some u->if d=some t then u=v else ρ t=some u):AR N ψ ρ' (a.put d v') where
 size:=by rw[Fa];exact h.size
 defs:=by rw[GU];exact h.defs
 rel:=fun t u hu=>by
  have:=hs t u hu;rw[Hi];by_cases ht:d=some t
  ·rw[if_pos ht]at this
   rw[if_pos ⟨ht,by rw[h.size];exact hd t ht⟩,this];exact hv
  ·rw[if_neg ht]at this
   rw[if_neg (fun h=>ht h.1)];exact(h.rel t u this).mono hle
theorem ON{P:yw}{ty:TTy}{all:List AAA}{o:AAA}{ah:AEk}{ρ ρ':Rho}{h h':Hp}{v:IN}{run:Bool}{T:Nat->Prop}(s:SF P ty all o ah ρ ρ' h h' v run T){a:Act}{φ:Phi}
  (hr:∀ g want og d u,o.guard=some (g,want)->all[g]? =some og->og.dst=some d->ρ d=some u->AEE φ u (a.tmps.getD d undef)):ABN o (yielded all.toArray a.tmps)=run:=by
 have hg:=s.grd;unfold ABN;cases hgd:o.guard with
 |none=>rw[hgd]at hg;exact hg.symm
 |some gw=>
  obtain⟨g,want⟩:=gw;rw[hgd]at hg;obtain⟨og,d,c,h1,h2,h3,h4⟩:=hg;have AEp:=hr g want og d c hgd h1 h2 h3;simp only;have hy:yielded all.toArray a.tmps g=match a.tmps[d]? with|some (.bool b)=>some b|_=>none:=by
   unfold yielded;have:(all.toArray[g]?).bind (·.dst)=some d:=by rw[List.getElem?_toArray,h1];exact h2
   rw[this];rfl
  rw[yp]at AEp;rcases h4 with ⟨b,rfl,hrun⟩|⟨ls,rfl,hrun⟩
  ·have hb:=AEp.AE3
   cases hq:a.tmps[d]? with
   |none=>rw[hq]at hb;cases hb
   |some x=>
    rw[hq]at hb;have hb:x=.bool b:=hb;rw[hy,hq,hb,hrun];cases b<;>cases want<;>rfl
  ·rw[hrun,hy]
   cases hq:a.tmps[d]? with
   |none=>rfl
   |some x=>
    rw[hq]at AEp;have AEp:AEE φ (.tuple ls) x:=AEp;cases AEp;rfl
structure Txt (P:yw)(ty:TTy)(N:Nat)(φ0:Phi)(ρ:Nat->Rho)(H:Nat->Hp)(V:Nat->IN)(T:Nat->Nat->Prop)(n:Nat):Prop where
 next:∀ j,j<n->(H j).next<=(H (j+1)).next
 shape:∀ j,j<n->∀ i,i<(H j).next->AET ((H j).bl.get i) ((H (j+1)).bl.get i)
 kept:∀ j,j<n->∀ i,i<(H j).next->¬ T j i->(H (j+1)).bl.get i=(H j).bl.get i
 fresh:∀ j,j<=n->∀ i,(H j).next<=i->(H j).bl.get i=.dead
 AHS:∀ j,j<=n->∃ (ψ:Phi) (w:yQ) (a:Act),AEI ty ψ nil (H j) w/\AR N ψ (ρ j) a/\φ0.Le ψ/\∀ i,(H 0).next<=i->i<(H j).next->∃ p,ψ i=some p
section
variable {P:yw}{ty:TTy}
theorem PT{N:Nat}{all:List AAA}{Q:Exit->Act->yQ->Prop}:∀ (l:List AAA) {ahs:List AEk} {ρ:Nat->Rho} {H:Nat->Hp} {V:Nat->IN} {run:Nat->Bool} {T:Nat->Nat->Prop} {a:Act} {w:yQ} {φ:Phi},
  Tr P ty all ahs l ρ H V run T->(∀ o∈l,∀ d,o.dst=some d->d<N)->AEI ty φ nil (H 0) w->AR N φ (ρ 0) a->
  (Txt P ty N φ ρ H V T l.length->∀ ψ a' w',AEI ty ψ nil (H l.length) w'->AR N ψ (ρ l.length) a'->Evo φ (H 0) w ψ (H l.length) w'->Q .normal a' w')->wpList P all.toArray Q l a w
 |[],ahs,ρ,H,V,run,T,a,w,φ,_,_,HW,HA,hq=>by
  refine hq ?_ φ a w HW HA (.refl _ _ _);refine {next:=fun j hj=>absurd hj (ABP _),shape:=fun j hj=>absurd hj (ABP _),kept:=fun j hj=>absurd hj (ABP _),fresh:=fun j hj i hi=>?_,AHS:=fun j hj=>?_}
  ·have:j=0:=AAt.1 hj
   subst this;exact HW.fresh i hi
  ·have:j=0:=AAt.1 hj
   subst this;exact⟨φ,w,a,HW,HA,.refl _,fun i h1 h2=>absurd h2 (ABp.2 h1)⟩
 |o::l,ahs,ρ,H,V,run,T,a,w,φ,tr,hN,HW,HA,hq=>by
  have s:=tr.sf 0 o rfl;have tr':Tr P ty all ahs.tail l (fun j=>ρ (j+1)) (fun j=>H (j+1)) (fun j=>V (j+1)) (fun j=>run (j+1)) (fun j=>T (j+1)):=
   ⟨fun j o' hj=>by
    have:=tr.sf (j+1) o' hj;have e:ahs.getD (j+1) .plain=ahs.tail.getD j .plain:=by cases ahs<;>rfl
    rw[e]at this;exact this⟩
  have hd:∀ d,o.dst=some d->d<N:=hN o xa;have rest:∀ ψ v' w',AEE ψ (V 0) v'->AEI ty ψ nil (H 1) w'->Eff (T 0) φ (H 0) w ψ (H 1) w'->Evo φ (H 0) w ψ (H 1) w'->wpList P all.toArray Q l (a.put o.dst v') w':=by
   intro ψ v' w' hv HW' eff evo;refine PT l tr' (fun o ho=>hN o (xZ _ ho)) HW' (HA.put eff.le hd hv s.slot) fun txt ψ2 a2 w2 q1 q2 q3=>hq ?_ ψ2 a2 w2 q1 q2 (evo.trans q3)
   refine {next:=fun j hj=>?_,shape:=fun j hj=>?_,kept:=fun j hj=>?_,fresh:=fun j hj i hi=>?_,AHS:=fun j hj=>?_}
   ·cases j with
    |zero=>exact eff.next
    |succ j=>exact txt.next j (by simpa using hj)
   ·cases j with
    |zero=>exact eff.shape
    |succ j=>exact txt.shape j (by simpa using hj)
   ·cases j with
    |zero=>exact eff.kept
    |succ j=>exact txt.kept j (by simpa using hj)
   ·cases j with
    |zero=>exact HW.fresh i hi
    |succ j=>exact txt.fresh j (by simpa using hj) i hi
   ·cases j with
    |zero=>exact⟨φ,w,a,HW,HA,.refl _,fun i h1 h2=>absurd h2 (ABp.2 h1)⟩
    |succ j=>
     obtain⟨χ,w3,a3,r1,r2,r3,r4⟩:=txt.AHS j (by simpa using hj);refine⟨χ,w3,a3,r1,r2,eff.le.trans r3,fun i h1 h2=>?_⟩;rcases yG i (H 1).next with h|h
     ·obtain⟨p,hp⟩:=eff.all i h1 h
      exact⟨p,r3 i p hp⟩
     ·exact r4 i h h2
  have hw:=ON s (a:=a) (φ:=φ) fun g want og d u _ _ _ hu=>HA.rel d u hu
  unfold wpList;rcases s.core with ⟨hrun,core⟩|⟨hrun,hv,hh,hT⟩
  ·rw[hw,hrun,if_pos rfl]
   refine .inl (core.AGt φ nil w a HW (fun x _ u hu=>HA.ev hu) ?_ _ _ fun ψ v' w' hv HW' eff evo=>rest ψ v' w' hv HW' eff evo);unfold TouchR;split<;>first|trivial|exact fun _ h=>h|exact fun _ _ _ _ h=>h
  ·rw[hw,hrun,if_neg (by simp)]
   have hu:AEE φ (V 0) undef:=by rw[hv];exact .tuple .nil
   have e1:Evo φ (H 0) w φ (H 1) w:=by
    show Evo φ (H 0) w φ (H (0+1)) w;rw[hh];exact .refl _ _ _
   have e2:Eff (T 0) φ (H 0) w φ (H 1) w:=by
    show Eff (T 0) φ (H 0) w φ (H (0+1)) w;rw[hh];exact {Eff.refl φ (H 0) w with frame:=fun _ _ _=>rfl,back:=fun i p e hl _=>⟨i,p,e,hl,rfl,rfl,.inl rfl⟩,kept:=fun _ _ _=>rfl}
   exact rest φ undef w hu (by show AEI ty φ nil (H (0+1)) w;rw[hh];exact HW) e2 e1
end
end
noncomputable section
open Go
section
variable {φ ψ χ:Phi}
theorem AFT.cut(hx:∀ b p,φ b=some p->(∃ q,ψ b=some q)->χ b=some p){a a' a'':Addr}:AFT φ a a'->AFT ψ a a''->AFT χ a a'
 |⟨s,s',p,hp,r⟩,⟨_,_,q,hq,_⟩=>⟨s,s',p,hx _ _ hp ⟨q,hq⟩,r⟩
theorem AFs.cut(hx:∀ b p,φ b=some p->(∃ q,ψ b=some q)->χ b=some p){a a' a'':Addr}{c c' c'':Nat}:AFs φ a c a' c'->AFs ψ a c a'' c''->AFs χ a c a' c'
 |⟨s,s',p,hp,r⟩,⟨_,_,q,hq,_⟩=>⟨s,s',p,hx _ _ hp ⟨q,hq⟩,r⟩
mutual
theorem AEE.cut(hx:∀ b p,φ b=some p->(∃ q,ψ b=some q)->χ b=some p):∀ {v v' v'':IN},AEE φ v v'->AEE ψ v v''->AEE χ v v'
 |_,_,_,.bool b,_=>.bool b
 |_,_,_,.int k n,_=>.int k n
 |_,_,_,.string s,_=>.string s
 |_,_,_,.AGp,_=>.AGp
 |_,_,_,.ptr h,h2=>by cases h2 with|ptr h2=>exact .ptr (h.cut hx h2)
 |_,_,_,.AE0,_=>.AE0
 |_,_,_,.slice hn h,h2=>by cases h2 with|slice _ h2=>exact .slice hn (h.cut hx h2)
 |_,_,_,.AGq,_=>.AGq
 |_,_,_,.map h,h2=>by cases h2 with|map h2=>exact .map (hx _ _ h ⟨_,h2⟩)
 |_,_,_,.func fn h h',h2=>by cases h2 with|func _ h2 h2'=>exact .func fn (AEV.cut hx h h2) (AEV.cut hx h' h2')
 |_,_,_,.nilFunc,_=>.nilFunc
 |_,_,_,.iface t h,h2=>by cases h2 with|iface _ h2=>exact .iface t (AEE.cut hx h h2)
 |_,_,_,.nilIface,_=>.nilIface
 |_,_,_,.agg h,h2=>by cases h2 with|agg h2=>exact .agg (AEV.cut hx h h2)
 |_,_,_,.tuple h,h2=>by cases h2 with|tuple h2=>exact .tuple (AEV.cut hx h h2)
 |_,_,_,.unk,_=>.unk
 |_,_,_,.AGN,_=>.AGN
theorem AEV.cut(hx:∀ b p,φ b=some p->(∃ q,ψ b=some q)->χ b=some p):∀ {v v' v'':List IN},AEV φ v v'->AEV ψ v v''->AEV χ v v'
 |_,_,_,.nil,_=>.nil
 |_,_,_,.cons h t,h2=>by cases h2 with|cons h2 t2=>exact .cons (AEE.cut hx h h2) (AEV.cut hx t t2)
end
theorem AE8.cut(hx:∀ b p,φ b=some p->(∃ q,ψ b=some q)->χ b=some p):∀ {l:List Ent} {l' l'':List MapEntry},AE8 φ l l'->AE8 ψ l l''->AE8 χ l l'
 |_,_,_,.nil,_=>.nil
 |_,_,_,.cons hk hv t,h2=>by cases h2 with|cons hk2 hv2 t2=>exact .cons (hk.cut hx hk2) (hv.cut hx hv2) (AE8.cut hx t t2)
theorem AE9.cut{ty:TTy}(hx:∀ b p,φ b=some p->(∃ q,ψ b=some q)->χ b=some p){p p2:Pl}{b:Blk}{o o2:Option Obj}(h:AE9 ty φ p b o)(h2:AE9 ty ψ p2 b o2):AE9 ty χ p b o:=by
 cases h with
 |cells h=>cases h2 with
  |cells h2=>exact .cells {h with cell:=fun j hj=>let ⟨v,e,r⟩:=h.cell j hj;let ⟨v2,_,r2⟩:=h2.cell j hj;⟨v,e,r.cut hx r2⟩}
 |map h=>cases h2 with
  |map h2=>exact .map (h.cut hx h2)
 |AFu h=>exact .AFu h
 |iter hp h=>cases h2 with
  |iter _ h2=>exact .iter hp (hx _ _ h ⟨_,h2⟩)
 |cur hp h hl=>cases h2 with
  |cur _ h2 _=>exact .cur hp (hx _ _ h ⟨_,h2⟩) hl
 |dead=>exact .dead
end
structure Laws (ty:TTy)(all:List AAA)(ρ:Nat->Rho)(H:Nat->Hp)(T:Nat->Nat->Prop)(B:Nat->Nat->Prop):Prop where
 lt:∀ i j,B i j->i<j
 slots:∀ i j oi oj d,i≠j->all[i]? =some oi->all[j]? =some oj->oi.dst=some d->
  (oj.dst=some d\/.tmp d∈oj.op.operands.toList\/∃ g w og,oj.guard=some (g,w)/\all[g]? =some og/\og.dst=some d)->B i j\/B j i
 kinds:∀ j oj c,all[j]? =some oj->T j c->(∃ x,kd ty oj.op=.w x)\/kd ty oj.op=.q
 fixed:∀ i j oi c,i≠j->all[i]? =some oi->j<all.length->T j c->((∃ x,kd ty oi.op=.w x)\/kd ty oi.op=.q)->B i j\/B j i
 reads:∀ i j oi x c u,i≠j->all[i]? =some oi->j<all.length->T j c->kd ty oi.op=.r x->evR (ρ i) x=some u->AEh u=.ok c->B i j\/B j i
 tlt:∀ j c,j<all.length->T j c->c<(H j).next
 AHT:∀ j c,j<all.length->T j c->(H all.length).low<=c/\c<=(H all.length).high
 low:(H all.length).low<=(H 0).low
 high:(H 0).high<=(H all.length).high
structure Inv (ty:TTy)(N:Nat)(all:List AAA)(ρ:Nat->Rho)(H:Nat->Hp)(T:Nat->Nat->Prop)(φ0:Phi)(w0:yQ)(S:Nat->Prop)(φ:Phi)(C:Nat->Blk)(a:Act)(w:yQ):Prop where
 dom:∀ b p,φ b=some p->p.blk<w.heap.size/\(b<(H 0).next\/∃ j,S j/\j<all.length/\(H j).next<=b/\b<(H (j+1)).next)
 inj:∀ b c p q,φ b=some p->φ c=some q->C b≠.dead->C c≠.dead->(p.inp=false\/q.inp=false)->p.blk=q.blk->b=c
 row:∀ b p,φ b=some p->AE9 ty φ p (C b) w.heap[p.blk]?
 kind:∀ k,k<=all.length->∀ b p c s e,φ b=some p->b<(H k).next->(H k).bl.get b=.cells c s e->Kind ty p s e
 inp:∀ b p,φ b=some p->p.inp=true->b<256
 link:∀ k,k<=all.length->∀ b p,φ b=some p->b<(H k).next->(∀ j,j<all.length->T j b->(j<k->S j)/\(k<=j->¬ S j))->C b=(H k).bl.get b
 chg:∀ j,S j->j<all.length->∀ b,b<(H j).next->(H (j+1)).bl.get b≠(H j).bl.get b->∃ p,φ b=some p
 full:∀ j,S j->j<all.length->∀ b,(H j).next<=b->b<(H (j+1)).next->∃ p,φ b=some p
 slot:∀ k,k<=all.length->∀ t u,(∀ j o,all[j]? =some o->o.dst=some t->(j<k->S j)/\(k<=j->¬ S j))->ρ k t=some u->AEE φ u (a.tmps.getD t undef)
 size:a.tmps.size=N
 defs:a.defers=[]
 le:φ0.Le φ
 new:∀ b p,φ b=some p->φ0 b=some p\/(H 0).next<=b
 sz:w0.heap.size<=w.heap.size
 tape:w.tape=w0.tape
 os:w.os=w0.os
 output:w.output=w0.output
 frame:∀ k,k<w0.heap.size->(∀ c p,φ0 c=some p->p.inp=false->(H all.length).low<=c->c<=(H all.length).high->Live (H 0) c->p.blk≠k)->w.heap[k]? =w0.heap[k]?
 back:∀ b p,φ b=some p->C b≠.dead->p.blk<w0.heap.size->∃ c q,φ0 c=some q/\Live (H 0) c/\q.blk=p.blk/\q.inp=p.inp/\(c=b\/(H all.length).low<=c/\c<=(H all.length).high)
section
variable {P:yw}{ty:TTy}{N:Nat}{all:List AAA}{ρ:Nat->Rho}{H:Nat->Hp}{V:Nat->IN}{T:Nat->Nat->Prop}{φ0:Phi}{w0:yQ}
theorem Txt.mono{φ:Phi}{n:Nat}(t:Txt P ty N φ ρ H V T n){i:Nat}:∀ {k:Nat},i<=k->k<=n->(H i).next<=(H k).next:=by
 intro k h hn
 induction k with
 |zero=>have:i=0:=AAt.1 h;subst this;exact IT _
 |succ k ih=>
  rcases yG k i with h2|h2
  ·have:i=k+1:=by omega
   subst this;exact IT _
  ·exact yP (ih h2 (by omega)) (t.next k (by omega))
theorem Txt.AF6{φ:Phi}{n:Nat}(t:Txt P ty N φ ρ H V T n){i:Nat}{b:Nat}(hb:b<(H i).next):∀ {k:Nat},i<=k->k<=n->AET ((H i).bl.get b) ((H k).bl.get b):=by
 intro k h hn
 induction k with
 |zero=>have:i=0:=AAt.1 h;subst this;exact .refl _
 |succ k ih=>
  rcases yG k i with h2|h2
  ·have:i=k+1:=by omega
   subst this;exact .refl _
  ·exact(ih h2 (by omega)).trans (t.shape k (by omega) b (yr hb (t.mono h2 (by omega))))
theorem Txt.same{φ:Phi}{n:Nat}(t:Txt P ty N φ ρ H V T n){i:Nat}{b:Nat}:∀ {k:Nat},i<=k->k<=n->(∀ m,i<=m->m<k->(H (m+1)).bl.get b=(H m).bl.get b)->(H k).bl.get b=(H i).bl.get b:=by
 intro k h hn hs
 induction k with
 |zero=>have:i=0:=AAt.1 h;subst this;rfl
 |succ k ih=>
  rcases yG k i with h2|h2
  ·have:i=k+1:=by omega
   subst this;rfl
  ·rw[hs k h2 (by omega)];exact ih h2 (by omega) fun m h1 h2=>hs m h1 (by omega)
theorem Tr.backward{run:Nat->Bool}{ahs:List AEk}(tr:Tr P ty all ahs all ρ H V run T){t:Nat}{u:IN}{i:Nat}:∀ {k:Nat},i<=k->k<=all.length->(∀ m o,i<=m->m<k->all[m]? =some o->o.dst≠some t)->ρ k t=some u->ρ i t=some u:=by
 intro k h hn hs hu
 induction k with
 |zero=>have:i=0:=AAt.1 h;subst this;exact hu
 |succ k ih=>
  rcases yG k i with h2|h2
  ·have:i=k+1:=by omega
   subst this;exact hu
  ·have hk:k<all.length:=by omega
   have ho:all[k]? =some all[k]:=List.getElem?_eq_getElem hk;have:=(tr.sf k all[k] ho).slot t u hu;rw[if_neg (hs k all[k] h2 (Nat.lt_succ_self _) ho)]at this;exact ih h2 (by omega) (fun m o h1 h2=>hs m o h1 (by omega)) this
def Pa(n:Nat)(T:Nat->Nat->Prop)(S:Nat->Prop)(h:Hp)(i:Nat):Nat->Prop:=fun b=>b<h.next/\¬ ∀ j,j<n->T j b->(j<i->S j)/\(i<=j->¬ S j)
def upto(φ:Phi)(n:Nat):Phi:=fun b=>if b<n then φ b else none
theorem Cf{φ:Phi}{n b:Nat}{p:Pl}(h:upto φ n b=some p):b<n/\φ b=some p:=by
 unfold upto at h;split at h
 ·exact⟨‹_›,h⟩
 ·cases h
theorem Inv.AJc{φ:Phi}{C:Nat->Blk}{a:Act}{w:yQ}{S:Nat->Prop}(I:Inv ty N all ρ H T φ0 w0 S φ C a w)(txt:Txt P ty N φ0 ρ H V T all.length){i:Nat}(hi:i<=all.length):
  AEI ty (upto φ (H i).next) (Pa all.length T S (H i) i) (H i) w/\∃ (ψ:Phi) (b:Act),AR N ψ (ρ i) b/\∀ b p,φ b=some p->(∃ q,ψ b=some q)->upto φ (H i).next b=some p:=by
 obtain⟨ψ,wt,at',HW,HA,hle,hall⟩:=txt.AHS i hi;have hx:∀ b p,φ b=some p->(∃ q,ψ b=some q)->upto φ (H i).next b=some p:=by
  rintro b p hp ⟨q,hq⟩;unfold upto;rw[if_pos (HW.dom b q hq).1];exact hp
 have hin:∀ b p,φ b=some p->b<(H i).next->∃ q,ψ b=some q:=by
  intro b p hp hb;rcases I.new b p hp with h|h
  ·exact⟨p,hle b p h⟩
  ·exact hall b h hb
 have lk:∀ b p,φ b=some p->b<(H i).next->¬ Pa all.length T S (H i) i b->C b=(H i).bl.get b:=by
  intro b p hp hb hE;refine I.link i hi b p hp hb fun j hj hT=>?_
  by_cases hh:(j<i->S j)/\(i<=j->¬ S j)
  ·exact hh
  ·exact absurd ⟨hb,fun hall=>hh (hall j hj hT)⟩ hE
 refine⟨{dom:=fun b p e=>?_,inj:=fun b c p q eb ec hEb hEc hb hc hio hpq=>?_,row:=fun b p e hE=>?_,fresh:=txt.fresh i hi,kind:=fun b p c s e' e he=>?_,inp:=fun b p e=>I.inp b p (Cf e).2},ψ,at',HA,hx⟩
 ·obtain⟨h1,h2⟩:=Cf e
  exact⟨h1,(I.dom b p h2).1⟩
 ·obtain⟨h1,h2⟩:=Cf eb
  obtain⟨h3,h4⟩:=Cf ec;exact I.inj b c p q h2 h4 (by rw[lk b p h2 h1 hEb];exact hb) (by rw[lk c q h4 h3 hEc];exact hc) hio hpq
 ·obtain⟨h1,h2⟩:=Cf e
  have r1:=I.row b p h2;rw[lk b p h2 h1 hE]at r1;obtain⟨q,hq⟩:=hin b p h2 h1;exact r1.cut hx (HW.row b q hq fun h=>h)
 ·obtain⟨h1,h2⟩:=Cf e
  exact I.kind i hi b p c s e' h2 h1 he
end
end
noncomputable section
open Go
section
variable {P:yw}{ty:TTy}{N:Nat}{all:List AAA}{ρ:Nat->Rho}{H:Nat->Hp}{V:Nat->IN}{T:Nat->Nat->Prop}{φ0:Phi}{w0:yQ}{B:Nat->Nat->Prop}
def join(φ ψ:Phi)(lo hi:Nat):Phi:=fun b=>if lo<=b/\b<hi then ψ b else φ b
open Classical in
def Uz(C:Nat->Blk)(h:Hp)(lo:Nat)(W:Prop):Nat->Blk:=fun b=>if b<h.next/\(lo<=b\/W)then h.bl.get b else C b
theorem Inv.after(L:Laws ty all ρ H T B){run:Nat->Bool}{ahs:List AEk}(tr:Tr P ty all ahs all ρ H V run T)(txt:Txt P ty N φ0 ρ H V T all.length){S:Nat->Prop}{φ:Phi}{C:Nat->Blk}{a:Act}{w:yQ}(I:Inv ty N all ρ H T φ0 w0 S φ C a w)
  {i:Nat}{o:AAA}(ho:all[i]? =some o)(hS:¬ S i)(hpre:∀ j,B j i->S j)(hcl:∀ j k,S j->B k j->S k)(hN:∀ d,o.dst=some d->d<N)
  {ψ:Phi}{v':IN}{w':yQ}(hv:AEE ψ (V i) v')(HW:AEI ty ψ (Pa all.length T S (H i) i) (H (i+1)) w')(eff:Eff (T i) (upto φ (H i).next) (H i) w ψ (H (i+1)) w'):
  Inv ty N all ρ H T φ0 w0 (fun j=>S j\/j=i) (join φ ψ (H i).next (H (i+1)).next) (Uz C (H (i+1)) (H i).next (∃ c,T i c)) (a.put o.dst v') w':=by
 have hi:i<all.length:=by
  rcases yG i all.length with h|h
  ·exact h
  ·rw[List.getElem?_eq_none h]at ho;cases ho
 have hnS:∀ j,B i j->¬ S j:=fun j hb hj=>hS (hcl j i hj hb)
 have fx:∀ j,j≠i->(B i j\/B j i)->(j<i->S j)/\(i<=j->¬ S j):=by
  intro j hj hb;rcases hb with hb|hb
  ·have:=L.lt i j hb
   exact⟨fun h=>by omega,fun _=>hnS j hb⟩
  ·have:=L.lt j i hb
   exact⟨fun _=>hpre j hb,fun h=>by omega⟩
 have hnext:=txt.next i hi;have hn1:i+1<=all.length:=hi;have hE:(∃ c,T i c)->∀ b,¬ Pa all.length T S (H i) i b:=by
  rintro⟨c,hc⟩ b ⟨hb,hne⟩;refine hne fun j hj hT=>?_
  by_cases hji:j=i
  ·subst hji;exact⟨fun h=>absurd h (Nat.lt_irrefl _),fun _=>hS⟩
  ·exact fx j hji (L.fixed i j o b (fun h=>hji h.symm) ho hj hT (L.kinds i o c ho hc))
 have AG8:∀ b,(H i).next<=b->b<(H (i+1)).next->φ b=none:=by
  intro b h1 h2;cases hb:φ b with
  |none=>rfl
  |some p=>
   exfalso
   rcases (I.dom b p hb).2 with h|⟨j,hj,hjn,h3,h4⟩
   ·have:=txt.mono (yK i) (zI hi)
    omega
   ·rcases Nat.lt_trichotomy j i with h|h|h
    ·have:=txt.mono (i:=j+1) (k:=i) h (zI hi);omega
    ·subst h;exact hS hj
    ·have:=txt.mono (i:=i+1) (k:=j) h (zI hjn);omega
 have AIl:∀ {b},(H i).next<=b->b<(H (i+1)).next->join φ ψ (H i).next (H (i+1)).next b=ψ b:=fun h1 h2=>if_pos ⟨h1,h2⟩
 have AGK:∀ {b},¬ ((H i).next<=b/\b<(H (i+1)).next)->join φ ψ (H i).next (H (i+1)).next b=φ b:=fun h=>if_neg h
 have jle:φ.Le (join φ ψ (H i).next (H (i+1)).next):=by
  intro b p hb;rw[AGK fun h=>by rw[AG8 b h.1 h.2]at hb;cases hb];exact hb
 have jψ:ψ.Le (join φ ψ (H i).next (H (i+1)).next):=by
  intro b p hb;have h2:=(HW.dom b p hb).1;rcases yG b (H i).next with h|h
  ·rw[AGK (by omega)]
   rcases eff.new b p hb with h3|h3
   ·exact(Cf h3).2
   ·omega
  ·rw[AIl h h2];exact hb
 have AFQ:∀ {b p},join φ ψ (H i).next (H (i+1)).next b=some p->((H i).next<=b/\b<(H (i+1)).next/\ψ b=some p)\/((b<(H i).next\/(H (i+1)).next<=b)/\φ b=some p):=by
  intro b p hb;by_cases h:(H i).next<=b/\b<(H (i+1)).next
  ·rw[AIl h.1 h.2]at hb;exact .inl ⟨h.1,h.2,hb⟩
  ·rw[AGK h]at hb;exact .inr ⟨by omega,hb⟩
 have upψ:∀ {b p},φ b=some p->b<(H i).next->ψ b=some p:=by
  intro b p hb h;refine eff.le b p ?_;unfold upto;rw[if_pos h];exact hb
 have AFx:∀ {b},b<(H (i+1)).next->((H i).next<=b\/∃ c,T i c)->Uz C (H (i+1)) (H i).next (∃ c,T i c) b=(H (i+1)).bl.get b:=fun h1 h2=>if_pos ⟨h1,h2⟩
 have AF7:∀ {b},¬ (b<(H (i+1)).next/\((H i).next<=b\/∃ c,T i c))->Uz C (H (i+1)) (H i).next (∃ c,T i c) b=C b:=fun h=>if_neg h
 have lk:(∃ c,T i c)->∀ b p,φ b=some p->b<(H i).next->C b=(H i).bl.get b:=by
  intro hw b p hb h;refine I.link i (zI hi) b p hb h fun j hj hT=>?_
  by_cases hh:(j<i->S j)/\(i<=j->¬ S j)
  ·exact hh
  ·exact absurd ⟨h,fun hall=>hh (hall j hj hT)⟩ (hE hw b)
 have live:∀ {b},b<(H i).next->(H (i+1)).bl.get b≠.dead->(H i).bl.get b≠.dead:=fun h hl=>(eff.shape _ h).live hl
 have AIm:∀ {b c p q},(H (i+1)).next<=c->φ c=some q->C c≠.dead->b<(H (i+1)).next->join φ ψ (H i).next (H (i+1)).next b=some p->Uz C (H (i+1)) (H i).next (∃ c,T i c) b≠.dead->(p.inp=false\/q.inp=false)->p.blk≠q.blk:=by
  intro b c p q hc hq hlc hb hp hlb hio hpq;rcases AFQ hp with ⟨h1,h2,h3⟩|⟨h1,h3⟩
  ·rw[AFx h2 (.inl h1)]at hlb
   obtain⟨j,q',e1,e2,e3,ei,e4⟩:=eff.back b p h3 hlb (hpq ▸ (I.dom c q hq).1);obtain⟨e5,e6⟩:=Cf e1;rcases e4 with rfl|e4
   ·omega
   ·have:=I.inj j c q' q e6 hq (by rw[lk ⟨j,e4⟩ j q' e6 e5];exact e2) hlc (by rw[ei];exact hio) (e3.trans hpq)
    omega
  ·have hb':b<(H i).next:=by omega
   have hl:C b≠.dead:=by
    by_cases hw:∃ c,T i c
    ·rw[AFx hb (.inr hw)]at hlb
     rw[lk hw b p h3 hb'];exact live hb' hlb
    ·rw[AF7 (by rintro⟨_,h|h⟩;omega;exact hw h)]at hlb;exact hlb
   have:=I.inj b c p q h3 hq hl hlc hio hpq;omega
 refine {dom:=?_,inj:=?_,row:=?_,kind:=?_,inp:=(fun b p hp hi=>by rcases AFQ hp with ⟨_,_,h3⟩|⟨_,h3⟩;exact HW.inp b p h3 hi;exact I.inp b p h3 hi),link:=?_,chg:=?_,full:=?_,slot:=?_,size:=(by rw[Fa];exact I.size),defs:=(by rw[GU];exact I.defs),le:=I.le.trans jle,new:=?_,sz:=yP I.sz eff.size,tape:=eff.tape.trans I.tape,os:=eff.os.trans I.os,output:=eff.output.trans I.output,frame:=?_,back:=?_}
 ·
  intro b p hp;rcases AFQ hp with ⟨h1,h2,h3⟩|⟨h1,h3⟩
  ·exact⟨(HW.dom b p h3).2,.inr ⟨i,.inr rfl,hi,h1,h2⟩⟩
  ·obtain⟨q1,q2⟩:=I.dom b p h3
   exact⟨yr q1 eff.size,q2.imp id fun⟨j,hj,r⟩=>⟨j,.inl hj,r⟩⟩
 ·
  intro b c p q hp hq hlb hlc hio hpq;rcases yG b (H (i+1)).next with hb|hb
  ·rcases yG c (H (i+1)).next with hc|hc
   ·have toψ:∀ {b p},b<(H (i+1)).next->join φ ψ (H i).next (H (i+1)).next b=some p->ψ b=some p:=by
     intro b p hb hp;rcases AFQ hp with ⟨_,_,h3⟩|⟨h1,h3⟩
     ·exact h3
     ·exact upψ h3 (by omega)
    have pb:=toψ hb hp;have pc:=toψ hc hq;by_cases hw:∃ c,T i c
    ·rw[AFx hb (.inr hw)]at hlb
     rw[AFx hc (.inr hw)]at hlc;exact HW.inj b c p q pb pc (hE hw b) (hE hw c) hlb hlc hio hpq
    ·rcases yG b (H i).next with hb2|hb2
     ·rcases yG c (H i).next with hc2|hc2
      ·rw[AF7 (by rintro⟨_,h|h⟩;omega;exact hw h)]at hlb
       rw[AF7 (by rintro⟨_,h|h⟩;omega;exact hw h)]at hlc;rw[AGK (by omega)]at hp hq;exact I.inj b c p q hp hq hlb hlc hio hpq
      ·exfalso
       rw[AGK (by omega)]at hp;rw[AFx hc (.inl hc2)]at hlc;obtain⟨j,q',e1,e2,e3,_,e4⟩:=eff.back c q pc hlc (hpq ▸ (I.dom b p hp).1);rcases e4 with rfl|e4
       ·have:=(Cf e1).1;omega
       ·exact hw ⟨j,e4⟩
     ·rw[AFx hb (.inl hb2)]at hlb
      rcases yG c (H i).next with hc2|hc2
      ·exfalso
       rw[AGK (by omega)]at hq;obtain⟨j,q',e1,e2,e3,_,e4⟩:=eff.back b p pb hlb (hpq ▸ (I.dom c q hq).1);rcases e4 with rfl|e4
       ·have:=(Cf e1).1;omega
       ·exact hw ⟨j,e4⟩
      ·rw[AFx hc (.inl hc2)]at hlc
       exact HW.inj b c p q pb pc (fun h=>by have:=h.1;omega) (fun h=>by have:=h.1;omega) hlb hlc hio hpq
   ·rw[AGK (by omega)]at hq
    rw[AF7 (by omega)]at hlc;exact absurd hpq (AIm hc hq hlc hb hp hlb hio)
  ·rcases yG c (H (i+1)).next with hc|hc
   ·rw[AGK (by omega)]at hp
    rw[AF7 (by omega)]at hlb;exact absurd hpq.symm (AIm hb hp hlb hc hq hlc hio.symm)
   ·rw[AGK (by omega)]at hp hq
    rw[AF7 (by omega)]at hlb hlc;exact I.inj b c p q hp hq hlb hlc hio hpq
 ·
  intro b p hp;by_cases hb:b<(H (i+1)).next/\((H i).next<=b\/∃ c,T i c)
  ·rw[AFx hb.1 hb.2]
   have hψ:ψ b=some p:=by
    rcases AFQ hp with ⟨_,_,h3⟩|⟨h1,h3⟩
    ·exact h3
    ·exact upψ h3 (by omega)
   refine(HW.row b p hψ ?_).mono jψ;rcases hb.2 with h|h
   ·intro hE;have:=hE.1;omega
   ·exact hE h b
  ·rw[AF7 hb]
   have hφ:φ b=some p:=by
    rcases AFQ hp with ⟨h1,h2,_⟩|⟨_,h3⟩
    ·exact absurd ⟨h2,.inl h1⟩ hb
    ·exact h3
   by_cases hd:C b=.dead
   ·rw[hd];exact .dead
   ·have hr:=(I.row b p hφ).mono jle
    rw[eff.frame p.blk (I.dom b p hφ).1 fun c q e1 en e2 e3 e4=>?_]
    ·exact hr
    ·obtain⟨e5,e6⟩:=Cf e1
     have:=I.inj c b q p e6 hφ (by rw[lk ⟨c,e2⟩ c q e6 e5];exact e3) hd (.inl en) e4;subst this;exact hb ⟨by omega,.inr ⟨c,e2⟩⟩
 ·
  intro k hk b p c s e hp hb he;rcases AFQ hp with ⟨h1,h2,h3⟩|⟨_,h3⟩
  ·have hik:i+1<=k:=by
    rcases yG i k with h|h
    ·exact h
    ·have:=txt.mono (i:=k) (k:=i) h (zI hi);omega
   have hs:=txt.AF6 (i:=i+1) (k:=k) h2 hik hk;rw[he]at hs;obtain⟨c',hc'⟩:=hs.cells;exact HW.kind b p c' s e h3 hc'
  ·exact I.kind k hk b p c s e h3 hb he
 ·
  intro k hk b p hp hb hyp;rcases yG i k with hik|hik
  ·
   rcases AFQ hp with ⟨h1,h2,h3⟩|⟨h1,h3⟩
   ·rw[AFx h2 (.inl h1)]
    refine(txt.same (i:=i+1) hik hk fun m hm1 hm2=>?_).symm;by_cases hm:S m
    ·by_cases hc:(H (m+1)).bl.get b=(H m).bl.get b
     ·exact hc
     ·have:=txt.mono (i:=i+1) (k:=m) hm1 (by omega)
      obtain⟨q,hq⟩:=I.chg m hm (by omega) b (by omega) hc;rw[AG8 b h1 h2]at hq;cases hq
    ·have:=txt.mono (i:=i+1) (k:=m) hm1 (by omega)
     refine txt.kept m (by omega) b (by omega) fun hT=>?_
     rcases (hyp m (by omega) hT).1 hm2 with h|h
     ·exact hm h
     ·omega
   ·rcases h1 with h1|h1
    ·by_cases hw:∃ c,T i c
     ·rw[AFx (by omega) (.inr hw)]
      refine(txt.same (i:=i+1) hik hk fun m hm1 hm2=>?_).symm;have:=txt.mono (i:=i+1) (k:=m) hm1 (by omega);refine txt.kept m (by omega) b (by omega) fun hT=>?_
      obtain⟨c,hc⟩:=hw;have hfx:=fx m (by omega) (L.fixed i m o b (by omega) ho (by omega) hT (L.kinds i o c ho hc));rcases (hyp m (by omega) hT).1 hm2 with h|h
      ·exact hfx.2 (by omega) h
      ·omega
     ·rw[AF7 (by rintro⟨_,h|h⟩;omega;exact hw h)]
      refine I.link k hk b p h3 hb fun j hj hT=>⟨fun h=>?_,fun h=>?_⟩
      ·rcases (hyp j hj hT).1 h with h|h
       ·exact h
       ·subst h;exact absurd ⟨b,hT⟩ hw
      ·exact fun hSj=>(hyp j hj hT).2 h (.inl hSj)
    ·rw[AF7 (by omega)]
     refine I.link k hk b p h3 hb fun j hj hT=>⟨fun h=>?_,fun h=>?_⟩
     ·rcases (hyp j hj hT).1 h with h|h
      ·exact h
      ·subst h;have:=L.tlt j b hj hT;omega
     ·exact fun hSj=>(hyp j hj hT).2 h (.inl hSj)
  ·
   have hkm:=txt.mono (i:=k) (k:=i) hik (zI hi);have h3:φ b=some p:=by
    rcases AFQ hp with ⟨h1,_,_⟩|⟨_,h3⟩
    ·omega
    ·exact h3
   have l1:C b=(H k).bl.get b:=I.link k hk b p h3 hb fun j hj hT=>⟨fun h=>by
     rcases (hyp j hj hT).1 h with h2|h2
     ·exact h2
     ·omega,fun h hSj=>(hyp j hj hT).2 h (.inl hSj)⟩
   by_cases hw:∃ c,T i c
   ·rw[AFx (by omega) (.inr hw)]
    have hnT:¬ T i b:=fun hT=>(hyp i hi hT).2 hik (.inr rfl)
    rw[eff.kept b (by omega) hnT,<- lk hw b p h3 (by omega)];exact l1
   ·rw[AF7 (by rintro⟨_,h|h⟩;omega;exact hw h)];exact l1
 ·
  intro j hj hjn b hb hc;rcases hj with hj|rfl
  ·obtain⟨p,hp⟩:=I.chg j hj hjn b hb hc
   exact⟨p,jle b p hp⟩
  ·cases hu:upto φ (H j).next b with
   |none=>exact absurd (eff.only b hb hu) hc
   |some p=>exact⟨p,jle b p (Cf hu).2⟩
 ·
  intro j hj hjn b h1 h2;rcases hj with hj|rfl
  ·obtain⟨p,hp⟩:=I.full j hj hjn b h1 h2
   exact⟨p,jle b p hp⟩
  ·obtain⟨p,hp⟩:=eff.all b h1 h2
   exact⟨p,jψ b p hp⟩
 ·
  intro k hk t u hyp hu;rw[Hi];by_cases hd:o.dst=some t
  ·rw[if_pos ⟨hd,by rw[I.size];exact hN t hd⟩]
   have hik:i<k:=by
    rcases yG i k with h|h
    ·exact h
    ·exact absurd (.inr rfl) ((hyp i o ho hd).2 h)
   have hu2:ρ (i+1) t=some u:=by
    refine tr.backward (i:=i+1) hik hk (fun m om h1 h2 hom hdm=>?_) hu;have hfx:=fx m (by omega) (L.slots i m o om t (by omega) ho hom hd (.inl hdm));rcases (hyp m om hom hdm).1 h2 with h|h
    ·exact hfx.2 (by omega) h
    ·omega
   have:=(tr.sf i o ho).slot t u hu2;rw[if_pos hd]at this;rw[this];exact hv.mono jψ
  ·rw[if_neg fun h=>hd h.1]
   refine(I.slot k hk t u (fun j oj hoj hdj=>?_) hu).mono jle;have hji:j≠i:=fun h=>by subst h;rw[ho]at hoj;cases hoj;exact hd hdj
   refine⟨fun h=>?_,fun h hSj=>(hyp j oj hoj hdj).2 h (.inl hSj)⟩;rcases (hyp j oj hoj hdj).1 h with h2|h2
   ·exact h2
   ·exact absurd h2 hji
 ·
  intro b p hp;rcases AFQ hp with ⟨h1,_,_⟩|⟨_,h3⟩
  ·have:=txt.mono (yK i) (zI hi)
   exact .inr (by omega)
  ·exact I.new b p h3
 ·
  intro k hk hc;rw[eff.frame k (yr hk I.sz) fun c q e1 en e2 e3 e4=>?_]
  ·exact I.frame k hk hc
  ·obtain⟨e5,e6⟩:=Cf e1
   obtain⟨c0,q0,f1,f2,f3,fi,f4⟩:=I.back c q e6 (by rw[lk ⟨c,e2⟩ c q e6 e5];exact e3) (by rw[e4];exact hk);have hlo:(H all.length).low<=c0/\c0<=(H all.length).high:=by
    rcases f4 with rfl|f4
    ·exact L.AHT i _ hi e2
    ·exact f4
   exact hc c0 q0 f1 (fi.trans en) hlo.1 hlo.2 f2 (f3.trans e4)
 ·
  intro b p hp hl hlt;rcases AFQ hp with ⟨h1,h2,h3⟩|⟨h1,h3⟩
  ·rw[AFx h2 (.inl h1)]at hl
   obtain⟨j,q,e1,e2,e3,ei,e4⟩:=eff.back b p h3 hl (yr hlt I.sz);obtain⟨e5,e6⟩:=Cf e1;rcases e4 with rfl|e4
   ·omega
   ·obtain⟨c0,q0,f1,f2,f3,fi,f4⟩:=I.back j q e6 (by rw[lk ⟨j,e4⟩ j q e6 e5];exact e2) (by rw[e3];exact hlt)
    refine⟨c0,q0,f1,f2,f3.trans e3,fi.trans ei,.inr ?_⟩;rcases f4 with rfl|f4
    ·exact L.AHT i _ hi e4
    ·exact f4
  ·refine I.back b p h3 ?_ hlt
   by_cases hb:b<(H (i+1)).next/\((H i).next<=b\/∃ c,T i c)
   ·have hb':b<(H i).next:=by omega
    rw[AFx hb.1 hb.2]at hl;have hw:∃ c,T i c:=hb.2.resolve_left (by omega);rw[lk hw b p h3 hb'];exact live hb' hl
   ·rw[AF7 hb]at hl;exact hl
end
end
end Go.Proofs.YtbjadbhkogcfeaaGreat
