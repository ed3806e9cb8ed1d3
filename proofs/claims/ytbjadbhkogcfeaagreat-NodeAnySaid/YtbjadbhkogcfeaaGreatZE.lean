/-
  Part ZE of what Lawan stands on: printed by program, names and spaces cut.
-/
import Derived.Test.YtbjadbhkogcfeaaGreatZD
open Go renaming Value→IN,IntKind→tw,Operand→uQ,World→uS,Program→vA,Oper→wG
open Nat renaming le_refl→If,beq→tm,ble→tz,zero_le→uD,lt_or_ge→uG,le_trans→uO,mul→ur,blt→uz,lt_of_lt_of_le→vD,add→vO,le_of_lt→vP,beq_refl→vT,le_zero→xQ,not_lt_zero→yL,not_lt→yp
open List renaming mem_cons_of_mem→td,mem_cons_self→te,mem_cons→uA,mem_map→vL,nodup_cons→wi,map_cons→xU
open Go.Sem renaming run_pure→tg
open Array renaming getD_eq_getD_getElem?→uw
open Go.Region renaming wanted→yJ
set_option linter.unusedSimpArgs false
set_option linter.unusedVariables false
namespace Go.Proofs.YtbjadbhkogcfeaaGreat
noncomputable section
open Go
def rD(h:Hp):R->R
 |.ok v _=>.ok v h
 |.no=>.no
def Kr(g:Hp->R):Prop:=∀ h h2:Hp,h2.bl=h.bl->g h2=rD h2 (g h)
def Kp(g:OpF):Prop:=∀ F e,Kr (g F e)
theorem Kr.same{g:Hp->R}(k:Kr g){h h':Hp}{v:IN}(hr:g h=.ok v h'):h'=h:=by
 have:=k h h rfl;rw[hr]at this;have:(R.ok v h')=.ok v h:=this;cases this;rfl
theorem Kr.at{g:Hp->R}(k:Kr g){h h':Hp}{v:IN}(hr:g h=.ok v h')(h2:Hp)(hb:h2.bl=h.bl):g h2=.ok v h2:=by
 rw[k h h2 hb,hr];rfl
theorem Kr.no:Kr fun _=>.no:=fun _ _ _=>rfl
theorem Kr.ok(v:IN):Kr fun h=>.ok v h:=fun _ _ _=>rfl
theorem Kr.bif{c:Bool}{a b:Hp->R}(ka:Kr a)(kb:Kr b):Kr fun h=>bif c then a h else b h:=by
 cases c
 ·exact kb
 ·exact ka
theorem Kr.ABm{v:IN}{k:IN->Hp->R}(hk:∀ v,Kr (k v)):Kr fun h=>ABm v fun v=>k v h:=by
 intro h h2 hb;simp only[BQ];exact hk v h h2 hb
theorem Kr.ACK{v:List IN}{k:List IN->Hp->R}(hk:∀ v,Kr (k v)):Kr fun h=>ACK v fun v=>k v h:=by
 intro h h2 hb;simp only[DD];exact hk v h h2 hb
theorem Kr.ABu{v:Nat}{k:Nat->Hp->R}(hk:∀ v,Kr (k v)):Kr fun h=>ABu v fun v=>k v h:=by
 intro h h2 hb;simp only[Am];exact hk v h h2 hb
theorem Kr.okI(k:tw)(n:Int):Kr fun h=>okI k n h:=fun h h2 _=>by simp only[Eq];rfl
theorem Kr.ACn(v:IN):Kr fun h=>ACn v h:=fun h h2 _=>by simp only[E7];rfl
theorem Kr.okB(b:Bool):Kr fun h=>okB b h:=by cases b<;>exact .ok _
theorem Kr.row{b:Nat}{k:VT->Nat->Nat->Hp->R}{z:Hp->R}(hk:∀ c s e,Kr (k c s e))(hz:Kr z):Kr fun h=>match rowOf h b with
  |.ok c s e=>k c s e h
  |.no=>z h:=by
 intro h h2 hb;have:rowOf h2 b=rowOf h b:=by unfold rowOf;rw[hb]
 simp only[this];cases rowOf h b with
 |ok c s e=>exact hk c s e h h2 hb
 |no=>exact hz h h2 hb
theorem Kr.ents{b:Nat}{k:List Ent->Nat->Hp->R}{z:Hp->R}(hk:∀ c s,Kr (k c s))(hz:Kr z):Kr fun h=>match Bj h b with
  |.ok c s=>k c s h
  |.no=>z h:=by
 intro h h2 hb;have:Bj h2 b=Bj h b:=by unfold Bj;rw[hb]
 simp only[this];cases Bj h b with
 |ok c s=>exact hk c s h h2 hb
 |no=>exact hz h h2 hb
theorem VA{c:VT}{off:Nat}{k:List IN->Hp->R}(hk:∀ l,Kr (k l))(n:Nat)(acc:List IN):Kr fun h=>S3 c off (fun l=>k l h) n acc:=by
 intro h h2 hb;simp only[F1];exact hk _ h h2 hb
theorem HO{e:Env}{x:Option O}{d y:Nat}{k:Nat->Hp->R}(hk:∀ n,Kr (k n)):Kr fun h=>Ci e x d y fun n=>k n h:=by
 unfold Ci;cases x with
 |none=>exact hk d
 |some o=>
  simp only;cases DS (o e)with
  |no=>exact .no
  |ok n=>exact .bif (hk n) .no
theorem Nf{e:Env}{l c:Nat}{lo hi mx:Option O}{k:Nat->Nat->Nat->Hp->R}(hk:∀ a b c,Kr (k a b c)):Kr fun h=>DO e l c lo hi mx fun a b c=>k a b c h:=by
 unfold DO;cases mx with
 |none=>exact HO (k:=fun hh h=>Ci e lo 0 hh fun l=>k l hh c h) fun hh=>HO (k:=fun l h=>k l hh c h) fun l=>hk l hh c
 |some m=>
  refine HO (k:=fun m h=>_) fun m=>?_
  cases hi with
  |none=>exact .no
  |some hh=>exact HO (k:=fun hh h=>Ci e lo 0 hh fun l=>k l hh m h) fun hh=>HO (k:=fun l h=>k l hh m h) fun l=>hk l hh m
theorem G5{a:Option Addr}{s l hh m:Nat}:Kr fun h=>Bv a s l hh m h:=by
 unfold Bv;refine .ABu (k:=fun n h=>_) fun n=>.ABu (k:=fun c h=>_) fun c=>?_
 cases tm m l with
 |true=>exact .ok _
 |false=>
  cases a with
  |none=>exact .ok _
  |some a=>
   simp only;cases ur l s with
   |zero=>exact .ok _
   |succ m=>exact .ABu (k:=fun o h=>_) fun o=>.ok _
theorem QS{e:Env}{k:List IN->Hp->R}(hk:∀ l,Kr (k l)):∀ (ps:List (Nat×Nat×O)) (cs:List IN),Kr fun h=>Ed cs e (fun l=>k l h) ps
 |[],cs=>by
  unfold Ed;exact .ACK (k:=k) hk
 |(off,size,x)::ps,cs=>by
  unfold Ed;exact .ABm (k:=fun v h=>_) fun v=>.bif (.bif (.bif (QS hk ps _) .no) .no) .no
theorem Ma{ok:Bool}{v:IN}{b:Bool}:Kr fun h=>Ev ok v b h:=by
 unfold Ev;cases ok
 ·exact .ABm (k:=fun v h=>_) fun v=>.ok _
 ·exact .ABm (k:=fun v h=>_) fun v=>.ok _
theorem RR{a:Addr}{n:Nat}:Kr fun h=>OM a n h:=.ABu (k:=fun o h=>_) fun o=>.ok _
theorem SC{size:Nat}{v:IN}{n:Nat}{k:List IN->Hp->R}(hk:∀ l,Kr (k l)):Kr fun h=>BI h size v n fun l=>k l h:=by
 unfold BI;cases v with
 |slice a l c=>
  cases a with
  |none=>exact hk []
  |some a=>exact .row (k:=fun c s _ h=>bif tz (vO a.off (ur n size)) s then S3 c a.off (fun l=>k l h) (ur n size) []else .no) (z:=fun _=>.no) (fun c s _=>.bif (VA hk _ _) .no) .no
 |string s=>exact .bif (hk _) .no
 |chan c=>
  cases c with
  |none=>exact .no
  |some r=>exact hk []
 |_=>exact .no
end
noncomputable section
open Go
theorem Kp.oNo:Kp oNo:=fun _ _=>.no
theorem Kp.w1{f:Fr}{x:uQ}{k:O->OpF}(hk:∀ y,Kp (k y)):Kp (w1 f x k):=by
 unfold Go.Proofs.YtbjadbhkogcfeaaGreat.w1;split
 ·exact hk _
 ·exact .oNo
theorem Kp.w2{f:Fr}{x y:uQ}{k:O->O->OpF}(hk:∀ x y,Kp (k x y)):Kp (w2 f x y k):=.w1 fun x=>.w1 fun y=>hk x y
theorem Kp.wTy{ty:TTy}{t:Nat}{k:TI->OpF}(hk:∀ ti,ty.get t=some ti->Kp (k ti)):Kp (wTy ty t k):=by
 unfold Go.Proofs.YtbjadbhkogcfeaaGreat.wTy;split
 ·rename_i ti h;exact hk ti h
 ·exact .oNo
theorem Kp.wZ{ti:TI}{k:OpF}(hk:Kp k):Kp (wZ ti k):=by
 unfold Go.Proofs.YtbjadbhkogcfeaaGreat.wZ;split
 ·exact hk
 ·exact .oNo
theorem Kp.wZero{ti:TI}{k:IN->OpF}(hk:∀ z,Kp (k z)):Kp (wZero ti k):=by
 unfold Go.Proofs.YtbjadbhkogcfeaaGreat.wZero;split
 ·exact hk _
 ·exact .oNo
theorem Kp.wKey{ty:TTy}{t:Nat}{k:KS->OpF}(hk:∀ z,Kp (k z)):Kp (wKey ty t k):=by
 unfold Go.Proofs.YtbjadbhkogcfeaaGreat.wKey;refine .wTy fun ti _=>?_
 split
 ·refine .wTy fun ki _=>?_
  split
  ·exact hk _
  ·exact .oNo
 ·exact .oNo
section
variable {x y z:O}
theorem Ml:Kp (AP x):=fun F e=>.ACn _
theorem aM:Kp (A6 x y z):=fun F e=>by
 show Kr fun h=>an (x e) (y e) (z e) h
 cases x e with
 |bool t=>cases t<;>exact .ACn _
 |_=>exact .no
theorem OG{zs:List IN}{ps:List (Nat×Nat×O)}:Kp (BH zs ps):=fun F e=>QS (k:=fun cs h=>.ok (.agg ⟨cs⟩) h) (fun l=>.ok _) ps zs
theorem gI:Kp (Be x):=fun F e=>by
 show Kr fun h=>XL (x e) h
 unfold XL;cases x e with
 |pointer a=>cases a;exact .no;exact .ok _
 |func f a b=>cases f<;>first|exact .ok _|exact .no
 |slice a n c=>exact .ok _
 |map m=>exact .ok _
 |iface t v=>exact .ABm (k:=fun v h=>.ok (.iface t v) h) fun v=>.ok _
 |_=>exact .no
theorem fu{f:Int->Int->Bool}{k:tw}:Kp (Ae f k x y):=fun F e=>by
 show Kr fun h=>df f (Cy k (x e)) (Cy k (y e)) h
 cases Cy k (x e)with
 |no=>exact .no
 |ok a=>cases Cy k (y e)with
  |no=>exact .no
  |ok b=>exact .okB _
theorem fe{f:Int->Int->Int}{k:tw}:Kp (C1 f k x y):=fun F e=>by
 show Kr fun h=>jO f k (Cy k (x e)) (Cy k (y e)) h
 cases Cy k (x e)with
 |no=>exact .no
 |ok a=>cases Cy k (y e)with
  |no=>exact .no
  |ok b=>exact .okI _ _
theorem fc{k:tw}{top:Nat}:Kp (CD k top x y):=fun F e=>by
 show Kr fun h=>cd k top (Cy k (x e)) (Cy k (y e)) h
 cases Cy k (x e)with
 |no=>exact .no
 |ok a=>cases Cy k (y e)with
  |no=>exact .no
  |ok b=>
   cases a with
   |negSucc _=>exact .okI _ _
   |ofNat a=>cases b with
    |negSucc _=>exact .okI _ _
    |ofNat b=>
     unfold cd;simp only;cases tz (vO a b) top with
     |true=>exact .ABu (k:=fun n h=>.ok (.int k (.ofNat n)) h) fun n=>.ok _
     |false=>exact .okI _ _
theorem fz{k:tw}:Kp (LL k x y):=fun F e=>by
 show Kr fun h=>ZB k (Cy k (x e)) (Cy k (y e)) h
 unfold ZB;cases Cy k (x e)with
 |no=>exact .no
 |ok a=>cases Cy k (y e)with
  |no=>exact .no
  |ok b=>exact .bif .no (.okI _ _)
theorem gM{k:tw}:Kp (RC k x y):=fun F e=>by
 show Kr fun h=>bG k (Cy k (x e)) (Cy k (y e)) h
 unfold bG;cases Cy k (x e)with
 |no=>exact .no
 |ok a=>cases Cy k (y e)with
  |no=>exact .no
  |ok b=>exact .bif .no (.okI _ _)
theorem fp{f:Nat->Nat->Nat}{k:tw}:Kp (Ke f k x y):=fun F e=>by
 show Kr fun h=>YK f k (GY k (x e)) (GY k (y e)) h
 unfold YK;cases GY k (x e)with
 |no=>exact .no
 |ok a=>cases GY k (y e)with
  |no=>exact .no
  |ok b=>exact .bif (.bif (.okI _ _) .no) .no
theorem gO{k:tw}:Kp (NX k x y):=fun F e=>by
 show Kr fun h=>bQ k (GY k (x e)) (DS (y e)) h
 unfold bQ;cases GY k (x e)with
 |no=>exact .no
 |ok a=>cases DS (y e)with
  |no=>exact .no
  |ok b=>exact .okI _ _
theorem gQ{k:tw}:Kp (LM k x y):=fun F e=>by
 show Kr fun h=>bR k (GY k (x e)) (DS (y e)) h
 unfold bR;cases GY k (x e)with
 |no=>exact .no
 |ok a=>cases DS (y e)with
  |no=>exact .no
  |ok b=>exact .okI _ _
theorem gS{f:List UInt8->List UInt8->Bool}:Kp (Jj f x y):=fun F e=>by
 show Kr fun h=>be f (x e) (y e) h
 unfold be;cases x e with
 |string a=>cases y e with
  |string b=>exact .okB _
  |_=>exact .no
 |_=>exact .no
theorem pN{k:TK}{n:Bool}:Kp (oEq k n x y):=fun F e=>by
 unfold oEq;cases eqV k (x e) (y e)with
 |some r=>exact .okB _
 |none=>exact .no
theorem Vj{k:KS}{n:Bool}:Kp (PQ k n x y):=fun F e=>by
 unfold PQ;cases eqC k (x e) (y e)with
 |some r=>exact .okB _
 |none=>exact .no
theorem gK:Kp (Dl x):=fun F e=>by
 unfold Dl;cases x e with
 |bool b=>exact .okB _
 |_=>exact .no
theorem aA{k:tw}:Kp (CR k x):=fun F e=>by
 unfold CR;cases XH (x e)with
 |no=>exact .no
 |ok n=>exact .okI _ _
theorem Xe:Kp (Fe x):=fun F e=>by
 unfold Fe;cases x e with
 |slice a n c=>
  refine SC (k:=fun cs h=>match Et cs with|some bs=>.ok (.string ⟨⟨bs⟩⟩) h|none=>.no) fun l=>?_
  cases Et l with
  |some bs=>exact .ok _
  |none=>exact .no
 |chan r=>
  cases r with
  |some r=>exact .ok _
  |none=>exact .no
 |_=>exact .no
theorem XT{t:Nat}:Kp (I4 t x):=fun F e=>.ABm (k:=fun v h=>.ok (.iface t v) h) fun v=>.ok _
theorem aE{fn:Fn}{a b:List O}:Kp (EL fn a b):=fun F e=>.ACK (k:=fun f h=>ACK (vals e b) fun c=>.ok (.func fn ⟨f⟩ ⟨c⟩) h) fun f=>.ACK (k:=fun c h=>.ok (.func fn ⟨f⟩ ⟨c⟩) h) fun c=>.ok _
theorem dp{el s:Nat}{a:Option Addr}{mx:Bool}{l hh m:Nat}:Kr fun h=>EH el s a mx l hh m h:=by
 unfold EH;cases mx with
 |true=>exact G5
 |false=>
  cases l with
  |zero=>exact G5
  |succ l=>
   intro h h2 hb;have:Ez el a h2=Ez el a h:=by
    unfold Ez;cases a with
    |none=>rfl
    |some a=>
     have:rowOf h2 a.block=rowOf h a.block:=by unfold rowOf;rw[hb]
     simp only[this]
   simp only[this];cases Ez el a h with
   |true=>exact G5 h h2 hb
   |false=>rfl
theorem fw{el s:Nat}{lo hi mx:Option O}:Kp (Dd el s x lo hi mx):=fun F e=>by
 unfold Dd;cases x e with
 |slice a n c=>exact Nf (k:=fun l hh m h=>EH el s a mx.isSome l hh m h) fun _ _ _=>dp
 |_=>exact .no
theorem TT{n s:Nat}{lo hi mx:Option O}:Kp (F8 n s x lo hi mx):=fun F e=>by
 unfold F8;cases Dz (x e)with
 |ok a=>exact Nf (k:=fun l hh m h=>Bv (some a) s l hh m h) fun _ _ _=>G5
 |no=>exact .no
theorem NV{o:Nat}:Kp (AF o x):=fun F e=>by
 unfold AF;cases Dz (x e)with
 |ok a=>exact RR
 |no=>exact .no
theorem VI{n s:Nat}{a:AA}{i:NN}:Kr fun h=>MQ n s a i h:=by
 unfold MQ;cases i with
 |no=>exact .no
 |ok i=>
  simp only;cases uz i n with
  |false=>exact .no
  |true=>
   cases a with
   |no=>exact .no
   |ok a=>exact RR
theorem TV{n s:Nat}:Kp (Cm n s x y):=fun F e=>VI
theorem gA{s:Nat}:Kp (CB s x y):=fun F e=>by
 unfold CB;cases x e with
 |slice a n c=>cases a;exact .no;exact VI
 |_=>exact .no
theorem XO:Kp (Iy x y):=fun F e=>by
 show Kr fun h=>J6 (x e) (DS (y e)) h
 unfold J6;cases DS (y e)with
 |no=>exact .no
 |ok i=>
  simp only;cases x e with
  |string s=>
   simp only;cases nth s.data.toList i with
   |some b=>exact .okI _ _
   |none=>exact .no
  |_=>exact .no
theorem Q8{i:Nat}:Kp (AV i x):=fun F e=>by
 unfold AV;cases x e with
 |tuple vs=>
  simp only;cases nth vs.toList i with
  |some v=>exact .ABm (k:=fun v h=>.ok v h) fun v=>.ok v
  |none=>exact .no
 |_=>exact .no
theorem ff{n:Nat}:Kp (Q7 n x):=fun F e=>by
 unfold Q7;cases x e with
 |slice a l c=>cases a;exact .no;exact .bif (.ok _) .no
 |_=>exact .no
theorem aG:Kp (BJ x):=fun F e=>by
 unfold BJ;cases x e with
 |slice a n c=>exact .ok _
 |chan o=>cases o;exact .no;exact .ok _
 |_=>exact .no
theorem aI:Kp (OH x):=fun F e=>by
 unfold OH;cases x e with
 |string s=>exact .ABu (k:=fun n h=>.ok (.int .i64 (.ofNat n)) h) fun n=>.ok _
 |_=>exact .no
theorem OA{l:Bool}{a b:IN}:Kr fun h=>Hg l a b h:=by
 unfold Hg;cases a with
 |int k a=>
  simp only;cases XH b with
  |no=>exact .no
  |ok b=>exact .bif (.ok _) (.ok _)
 |_=>exact .no
theorem gG:Kp (Xb x y):=fun F e=>OA
theorem gE:Kp (Xa x y):=fun F e=>OA
theorem XV:Kp (AM x):=fun F e=>by
 unfold AM;cases Dz (x e)with
 |no=>exact .no
 |ok a=>
  intro h h2 hb;show ABa a h2=rD h2 (ABa a h);have:rowOf h2 a.block=rowOf h a.block:=by unfold rowOf;rw[hb]
  unfold ABa;rw[this];cases rowOf h a.block with
  |no=>rfl
  |ok c s t=>
   simp only;cases uz a.off s with
   |false=>rfl
   |true=>simp only[BQ];rfl
theorem XX{n:Nat}:Kp (BE n x):=fun F e=>by
 unfold BE;cases Dz (x e)with
 |no=>exact .no
 |ok a=>exact .row (k:=fun c s _ h=>bif tz (vO a.off n) s then S3 c a.off (fun l=>.ok (.agg ⟨l⟩) h) n []else .no) (z:=fun _=>.no) (fun c s _=>.bif (VA (k:=fun l h=>.ok (.agg ⟨l⟩) h) (fun l=>.ok _) _ _) .no) .no
theorem TY{K:KS}{zv:IN}{ok:Bool}:Kp (Gx K zv ok x y):=fun F e=>by
 show Kr fun h=>IB K zv (x e) (y e) ok h
 unfold IB;cases GS K (y e)with
 |false=>exact .no
 |true=>
  simp only;cases x e with
  |map r=>
   cases r with
   |none=>exact Ma
   |some r=>
    refine .ents (k:=fun es _ h=>match MI K (y e) es with
     |some (some en)=>Ev ok en.val true h
     |some none=>Ev ok zv false h
     |none=>.no) (z:=fun _=>.no) (fun es _=>?_) .no
    cases MI K (y e) es with
    |none=>exact .no
    |some o=>cases o<;>exact Ma
  |_=>exact .no
end
section
variable {ty:TTy}{f:Fr}
theorem cj{op:BinOp}{t:Nat}{x y:uQ}:Kp (YI ty f op t x y):=by
 unfold YI;refine .wTy fun ti _=>.w2 fun x y=>?_
 split
 ·split
  ·cases op<;>first|exact .oNo|exact .oNo
  ·exact .oNo
 ·cases op<;>first|exact fc|exact fe|exact fz|exact gM|exact fp|exact gO|exact gQ|exact fu|exact .oNo
 ·cases op<;>first|exact .oNo|exact gS|exact .oNo
 ·split
  ·cases op<;>first|exact Vj|exact .oNo
  ·exact .oNo
 ·split
  ·cases op<;>first|exact Vj|exact .oNo
  ·exact .oNo
 ·cases op<;>first|exact pN|exact .oNo
theorem pQ{op:Op}(hk:kd ty op=.p\/∃ x,kd ty op=.r x):Kp (opC ty f op):=by
 cases op with
 |move x=>exact .w1 fun x=>Ml
 |assign x=>exact .w1 fun x=>Ml
 |pick c a b=>exact .w1 fun c=>.w2 fun a b=>aM
 |build t ps=>
  refine .wTy fun ti _=>.wZ ?_
  split
  ·split
   ·exact OG
   ·exact .oNo
  ·refine .wTy fun ei _=>?_
   split
   ·exact OG
   ·exact .oNo
  ·exact .oNo
 |load t x=>
  refine .wTy fun ti _=>.w1 fun x=>?_
  split
  ·exact XX
  ·exact XV
 |nilCheck x=>exact .w1 fun x=>gI
 |binOp op t x y u=>exact cj
 |unOp op t x=>
  refine .wTy fun ti _=>.w1 fun x=>?_
  split<;>first|exact gK|exact .oNo|exact .oNo|exact .oNo
 |convert src dst x=>
  refine .wTy fun si hsi=>.wTy fun di hdi=>.w1 fun x=>?_
  split
  ·exact aA
  ·exact .oNo
  ·refine .wTy fun ei _=>?_
   split
   ·exact Xe
   ·exact .oNo
  ·rename_i hd hs
   exfalso
   simp only[kd]at hk;cases hb:tm src dst with
   |true=>simp only[hb]at hk;rcases hk with hk|⟨_,hk⟩<;>cases hk
   |false=>
    have h1:MU ty src=false:=by unfold MU;rw[hsi];simp only[hs]
    have h2:Hb ty dst=true:=by unfold Hb;rw[hdi];simp only[hd]
    simp only[hb,h1,h2]at hk;rcases hk with hk|⟨_,hk⟩<;>cases hk
  ·rename_i hs hd
   split
   ·rename_i hb
    exfalso
    simp only[kd,hb]at hk;rcases hk with hk|⟨_,hk⟩<;>cases hk
   ·exact .oNo
  ·exact .oNo
 |makeInterface t x=>
  refine .wTy fun ti _=>.w1 fun x=>?_
  split
  ·exact .oNo
  ·exact XT
 |makeFunc fn a b=>
  show Kp (match cOs f a.toList,cOs f b.toList with
   |some fs,some c=>EL fn fs c
   |_,_=>oNo)
  split
  ·exact aE
  ·exact .oNo
 |slice t x lo hi mx=>
  refine .wTy fun ti _=>.w1 fun x=>?_
  split
  ·split
   ·split
    ·exact .oNo
    ·exact .oNo
   ·exact .wTy fun ei _=>fw
   ·exact .wTy fun ei _=>TT
   ·exact .oNo
  ·exact .oNo
 |fieldAddr t x i=>
  refine .wTy fun ti _=>.w1 fun x=>?_
  split
  ·split<;>first|exact NV|exact .oNo
  ·exact .oNo
 |field t x i=>
  refine .wTy fun ti _=>.w1 fun x=>?_
  split
  ·split
   ·exact .wTy fun fi _=>.oNo
   ·exact .oNo
  ·exact .oNo
 |indexAddr t x i=>
  refine .wTy fun ti _=>.w2 fun x y=>?_
  split
  ·exact .wTy fun fi _=>TV
  ·exact .wTy fun fi _=>gA
  ·exact .oNo
 |index t x i=>
  refine .wTy fun ti _=>.w2 fun x y=>?_
  split
  ·exact .wTy fun fi _=>.oNo
  ·exact XO
  ·exact .oNo
 |lookup t x i ok=>
  refine .wTy fun ti _=>.w2 fun x y=>?_
  split
  ·exact .wTy fun ei _=>.wZ (.wZero fun z=>.wKey fun ks=>TY)
  ·exact .oNo
 |extract t i=>exact .w1 fun t=>Q8
 |sliceToArrayPointer t x=>
  refine .wTy fun ti _=>?_
  split
  ·exact .w1 fun x=>ff
  ·exact .oNo
 |call c=>
  simp only[kd]at hk;cases hc:c.callee with
  |builtin b=>
   show Kp (match cOs f c.args.toList with
    |some args=>match c.callee with
     |.builtin b=>KB ty b c.argTypes.toList args
     |.value g=>match g with
      |.func g=>AS g args
      |g=>w1 f g fun g=>C9 g args
     |.invoke recv name=>w1 f recv fun x=>oNo
    |none=>oNo)
   split
   ·rename_i args ha
    simp only[hc];cases b with
    |len=>
     unfold KB;split<;>rename_i h1<;>first|(cases h1;done)|skip
     all_goals (try (exact .oNo))
     split
     ·refine .wTy fun ti _=>?_
      split
      ·exact aG
      ·exact aI
      ·exact .oNo
      ·exact Ml
      ·exact .oNo
     ·exact .oNo
    |min=>
     unfold KB;split<;>rename_i h1<;>first|(cases h1;done)|exact gG|exact .oNo
    |max=>
     unfold KB;split<;>rename_i h1<;>first|(cases h1;done)|exact gE|exact .oNo
    |_=>
     exfalso
     simp only[hc]at hk;cases hl:c.args.toList with
     |nil=>simp only[hl]at hk;rcases hk with hk|⟨_,hk⟩<;>cases hk
     |cons _ _=>simp only[hl]at hk;rcases hk with hk|⟨_,hk⟩<;>cases hk
   ·exact .oNo
  |_=>
   exfalso
   simp only[hc]at hk;rcases hk with hk|⟨_,hk⟩<;>cases hk
 |_=>first|exact .oNo|(exfalso;rcases hk with hk|⟨_,hk⟩<;>cases hk)
end
end
noncomputable section
open Go
abbrev Rho:=Nat->Option IN
def ABz(A:List Nat)(σ:Sg)(e:Env):Rho:=fun t=>match Pf A σ (.tmp t)with
 |some s=>some (LO s e)
 |none=>none
def evR(ρ:Rho):uQ->Option IN
 |.tmp t=>ρ t
 |.const v=>if Fh v then some v else none
 |.func g=>some (.func (.func g) #[] #[])
 |.global _=>none
theorem Eb(A:List Nat)(σ:Sg)(e:Env)(t:Nat):ABz A σ e t=match De t σ with
  |some s=>some (LO s e)
  |none=>match memN t A with
   |true=>none
   |false=>match uz t 240 with
    |true=>some (J t e)
    |false=>none:=by
 show(match Pf A σ (.tmp t)with|some s=>some (LO s e)|none=>none)=_;show(match (match De t σ with|some s=>some s|none=>match memN t A with|true=>none|false=>match uz t 240 with|true=>some (Src.s t)|false=>none)with|some s=>some (LO s e)|none=>none)=_;cases De t σ with
 |some s=>rfl
 |none=>
  cases memN t A with
  |true=>rfl
  |false=>cases uz t 240<;>rfl
theorem bZ{A:List Nat}{σ:Sg}{x:uQ}{s:Src}(h:Pf A σ x=some s)(e:Env):evR (ABz A σ e) x=some (LO s e):=by
 cases x with
 |tmp t=>show(match Pf A σ (.tmp t)with|some s=>some (LO s e)|none=>none)=_;rw[h]
 |const v=>
  have h:(match Fh v with|true=>some (Src.c v)|false=>none)=some s:=h;cases hp:Fh v with
  |true=>rw[hp]at h;cases h;show(if Fh v then some v else none)=_;rw[if_pos hp];rfl
  |false=>rw[hp]at h;cases h
 |func g=>cases h;rfl
 |global _=>cases h
theorem kF{f:Fr}{x:uQ}{y:O}(h:cO f x=some y):∃ s,Pf f.A f.σ x=some s/\y=LO s:=by
 unfold cO at h;split at h
 ·rename_i s hs;cases h;exact⟨s,hs,rfl⟩
 ·cases h
theorem Fv{A:List Nat}{σ:Sg}{x:uQ}{y:O}(h:cO ⟨A,σ⟩ x=some y)(e:Env):evR (ABz A σ e) x=some (y e):=by
 obtain⟨s,hs,rfl⟩:=kF h;exact bZ hs e
theorem Mv{φ:Phi}{v:IN}(h:Fh v=true):ABe φ v v:=by
 unfold Fh at h;split at h
 ·rename_i cs
  exact .agg (l:=cs.toList) (l':=cs.toList) (.plain h)
 ·exact .plain h
structure ACq (A:List Nat)(σ:Sg):Prop where
 mem:∀ p∈σ,memN p.1 A=true
 nodup:(σ.map (·.1)).Nodup
 lt:∀ p∈σ,∀ n,p.2=.s n->n<240
theorem ACq.nil(A:List Nat):ACq A [] where
 mem:=fun p hp=>by cases hp
 nodup:=List.nodup_nil
 lt:=fun p hp=>by cases hp
theorem FR{a b:Nat}(h:tm a b=false):a≠b:=fun e=>by rw[e,vT]at h;cases h
theorem Ej:∀ {σ:Sg} {t:Nat} {s:Src},De t σ=some s->(t,s)∈σ
 |(d,s')::l,t,s,h=>by
  unfold De at h;split at h
  ·rename_i hb
   cases h;have:=A1.1 hb;subst this;exact te
  ·exact td _ (Ej h)
theorem FH:∀ {σ:Sg} {t:Nat} {s:Src},(σ.map (·.1)).Nodup->(t,s)∈σ->De t σ=some s
 |(d,s')::l,t,s,hn,h=>by
  unfold De;rw[xU,wi]at hn;rcases uA.1 h with h|h
  ·cases h
   rw[vT]
  ·have:d≠t:=by
    intro e;subst e;exact hn.1 (vL.2 ⟨_,h,rfl⟩)
   have hb:tm d t=false:=by
    cases hb:tm d t with
    |true=>exact absurd (A1.1 hb) this
    |false=>rfl
   rw[hb];exact FH hn.2 h
theorem Ei:∀ {σ:Sg} {d:Nat},(Fz d σ).Sublist σ/\∀ p∈Fz d σ,p.2≠.s d
 |[],d=>⟨.slnil,fun p hp=>by cases hp⟩
 |(t,.s n)::l,d=>by
  obtain⟨h1,h2⟩:=Ei (σ:=l) (d:=d);unfold Fz;split
  ·exact⟨h1.cons _,h2⟩
  ·rename_i hb
   refine⟨h1.cons_cons _,fun p hp=>?_⟩;rcases uA.1 hp with rfl|hp
   ·intro e;cases e;exact FR hb rfl
   ·exact h2 p hp
 |(t,.c v)::l,d=>by
  obtain⟨h1,h2⟩:=Ei (σ:=l) (d:=d);unfold Fz;refine⟨h1.cons_cons _,fun p hp=>?_⟩;rcases uA.1 hp with rfl|hp
  ·intro e;cases e
  ·exact h2 p hp
theorem Gl:∀ {σ:Sg} {d:Nat},(Fp d σ).Sublist σ/\∀ p∈Fp d σ,p.1≠d
 |[],d=>⟨.slnil,fun p hp=>by cases hp⟩
 |(t,s)::l,d=>by
  obtain⟨h1,h2⟩:=Gl (σ:=l) (d:=d);unfold Fp;split
  ·exact⟨h1.cons _,h2⟩
  ·rename_i hb
   refine⟨h1.cons_cons _,fun p hp=>?_⟩;rcases uA.1 hp with rfl|hp
   ·exact FR hb
   ·exact h2 p hp
theorem ACq.sub{A:List Nat}{σ σ':Sg}(h:ACq A σ)(hs:σ'.Sublist σ):ACq A σ':=
 ⟨fun p hp=>h.mem p (hs.subset hp),(hs.map (·.1)).nodup h.nodup,fun p hp=>h.lt p (hs.subset hp)⟩
theorem ACq.alias{A:List Nat}{σ:Sg}(h:ACq A σ){d:Nat}(hd:memN d A=true){s:Src}(hs:∀ n,s=.s n->n<240):ACq A ((d,s)::Fp d σ):=by
 have h':=h.sub (Gl (d:=d)).1;refine⟨fun p hp=>?_,?_,fun p hp=>?_⟩
 ·rcases uA.1 hp with rfl|hp
  ·exact hd
  ·exact h'.mem p hp
 rotate_left
 ·rcases uA.1 hp with rfl|hp
  ·exact hs
  ·exact h'.lt p hp
 ·rw[xU,wi]
  refine⟨fun hm=>?_,h'.nodup⟩;obtain⟨p,hp,e⟩:=vL.1 hm;exact(Gl (d:=d)).2 p hp e
theorem gx{A:List Nat}{σ:Sg}{e:Env}(hS:ACq A σ){d:Nat}(hd:memN d A=false)(hlt:d<240)(v:IN){t:Nat}{u:IN}
  (h:ABz A (Fz d σ) (Env.set d v e) t=some u):if t=d then u=v else ABz A σ e t=some u:=by
 rw[Eb]at h;cases hf:De t (Fz d σ)with
 |some s=>
  simp only[hf]at h;cases h;have hm:=Ej hf;have hm':=Ei.1.subset hm;have hne:=(Ei (σ:=σ) (d:=d)).2 _ hm;have hA:=hS.mem _ hm';have ht:t≠d:=by intro e;subst e;simp only at hA;rw[hd]at hA;cases hA
  rw[if_neg ht,Eb,FH hS.nodup hm'];simp only
  congr 1
  cases s with
  |c v=>rfl
  |s n=>
   have hn:n≠d:=fun e=>hne (by rw[e])
   show J n e=J n (Env.set d v e);have h3:n<240:=hS.lt _ hm' n rfl;rw[DE n h3,DE n h3,Env.ABq _ _ _ _ hlt h3,if_neg hn]
 |none=>
  simp only[hf]at h;cases hm:memN t A with
  |true=>simp only[hm]at h;cases h
  |false=>
   simp only[hm]at h;cases hb:uz t 240 with
   |false=>simp only[hb]at h;cases h
   |true=>
    simp only[hb]at h;have h3:=Ba.1 hb;cases h;have hg:J t (Env.set d v e)=if t=d then v else e.get t:=by
     rw[DE t h3,Env.ABq _ _ _ _ hlt h3]
    rw[hg];split
    ·rfl
    ·have hf2:De t σ=none:=by
      cases hf2:De t σ with
      |none=>rfl
      |some s=>
       have:=hS.mem _ (Ej hf2);simp only at this;rw[hm]at this;cases this
     rw[Eb];simp only[hf2,hm,hb];rw[DE t h3]
theorem Xk{A:List Nat}{σ:Sg}{e:Env}(hS:ACq A σ){d:Nat}(hd:memN d A=true)(s:Src){t:Nat}{u:IN}
  (h:ABz A ((d,s)::Fp d σ) e t=some u):if t=d then u=LO s e else ABz A σ e t=some u:=by
 rw[Eb]at h;by_cases ht:t=d
 ·rw[if_pos ht]
  subst ht;have:De t ((t,s)::Fp t σ)=some s:=by unfold De;rw[vT]
  simp only[this]at h;cases h;rfl
 ·rw[if_neg ht]
  have hb:tm d t=false:=by
   cases hb:tm d t with
   |true=>exact absurd (A1.1 hb).symm ht
   |false=>rfl
  have h1:De t ((d,s)::Fp d σ)=De t (Fp d σ):=by conv=>lhs;unfold De;rw[hb]
  have h2:De t (Fp d σ)=De t σ:=by
   cases hf:De t (Fp d σ)with
   |some s'=>exact(FH hS.nodup (Gl.1.subset (Ej hf))).symm
   |none=>
    cases hf2:De t σ with
    |none=>rfl
    |some s'=>
     have hm:=Ej hf2;have:∀ {σ:Sg},(t,s')∈σ->(t,s')∈Fp d σ:=by
      intro σ hm
      induction σ with
      |nil=>cases hm
      |cons p l ih=>
       obtain⟨a,b⟩:=p;unfold Fp;rcases uA.1 hm with h|h
       ·cases h
        have hb2:tm t d=false:=by
         cases hb:tm t d with
         |true=>exact absurd (A1.1 hb) ht
         |false=>rfl
        rw[hb2];exact te
       ·split
        ·exact ih h
        ·exact td _ (ih h)
     have:=FH (hS.sub (Gl (d:=d)).1).nodup (this hm);rw[hf]at this;cases this
  rw[h1,h2]at h;rw[Eb];exact h
structure Eff (T:Nat->Prop)(φ:Phi)(h:Hp)(w:uS)(φ':Phi)(h':Hp)(w':uS):Prop where
 le:φ.Le φ'
 new:∀ i p,φ' i=some p->φ i=some p\/h.next<=i
 next:h.next<=h'.next
 size:w.heap.size<=w'.heap.size
 tape:w'.tape=w.tape
 os:w'.os=w.os
 output:w'.output=w.output
 frame:∀ k,k<w.heap.size->(∀ i p,φ i=some p->p.inp=false->T i->Live h i->p.blk≠k)->w'.heap[k]? =w.heap[k]?
 back:∀ i p,φ' i=some p->Live h' i->p.blk<w.heap.size->∃ j q,φ j=some q/\Live h j/\q.blk=p.blk/\q.inp=p.inp/\(j=i\/T j)
 kept:∀ i,i<h.next->¬ T i->h'.bl.get i=h.bl.get i
 shape:∀ i,i<h.next->ABt (h.bl.get i) (h'.bl.get i)
 only:∀ i,i<h.next->φ i=none->h'.bl.get i=h.bl.get i
 all:∀ i,h.next<=i->i<h'.next->∃ p,φ' i=some p
theorem Evo.eff{φ ψ:Phi}{h h':Hp}{w w':uS}(ev:Evo φ h w ψ h' w'):Eff (fun c=>h'.low<=c/\c<=h'.high) φ h w ψ h' w' where
 le:=ev.le
 new:=ev.new
 next:=ev.next
 size:=ev.size
 tape:=ev.tape
 os:=ev.os
 output:=ev.output
 frame:=fun k hk hf=>ev.frame k hk fun i p e hn h1 h2 hl=>hf i p e hn ⟨h1,h2⟩ hl
 back:=ev.back
 kept:=fun i hi ht=>ev.kept i hi (by
  rcases uG i h'.low with h|h
  ·exact .inl h
  ·rcases uG h'.high i with h2|h2
   ·exact .inr h2
   ·exact absurd ⟨h,h2⟩ ht)
 shape:=ev.shape
 only:=ev.only
 all:=ev.all
theorem Eff.ACw{T:Nat->Prop}{φ ψ:Phi}{h h' g g':Hp}{w w':uS}(ev:Eff T φ h w ψ h' w')(h1:g.bl=h.bl)(h2:g.next=h.next)(h3:g'.bl=h'.bl)(h4:g'.next=h'.next):Eff T φ g w ψ g' w' where
 le:=ev.le
 new:=by rw[h2];exact ev.new
 next:=by rw[h2,h4];exact ev.next
 size:=ev.size
 tape:=ev.tape
 os:=ev.os
 output:=ev.output
 frame:=by unfold Live;rw[h1];exact ev.frame
 back:=by unfold Live;rw[h1,h3];exact ev.back
 kept:=by rw[h1,h2,h3];exact ev.kept
 shape:=by rw[h1,h2,h3];exact ev.shape
 only:=by rw[h1,h2,h3];exact ev.only
 all:=by rw[h2,h4];exact ev.all
theorem Eff.evo{T:Nat->Prop}{φ ψ:Phi}{h h':Hp}{w w':uS}(ev:Eff T φ h w ψ h' w')(hT:∀ c,T c->h'.low<=c/\c<=h'.high)(hl:h'.low<=h.low)(hh:h.high<=h'.high):Evo φ h w ψ h' w' where
 le:=ev.le
 new:=ev.new
 next:=ev.next
 size:=ev.size
 tape:=ev.tape
 os:=ev.os
 output:=ev.output
 frame:=fun k hk hf=>ev.frame k hk fun i p e hn ht hl=>hf i p e hn (hT i ht).1 (hT i ht).2 hl
 back:=fun i p e hl hp=>by
  obtain⟨j,q,e1,e2,e3,e5,e4⟩:=ev.back i p e hl hp;exact⟨j,q,e1,e2,e3,e5,e4.imp id (hT j)⟩
 kept:=fun i hi ho=>ev.kept i hi fun ht=>by have:=hT i ht;omega
 low:=hl
 high:=hh
 shape:=ev.shape
 only:=ev.only
 all:=ev.all
theorem ABh.ACw{ty:TTy}{φ:Phi}{E:Nat->Prop}{h g:Hp}{w:uS}(H:ABh ty φ E h w)(h1:g.bl=h.bl)(h2:g.next=h.next):ABh ty φ E g w where
 dom:=by rw[h2];exact H.dom
 inj:=by unfold Live;rw[h1];exact H.inj
 row:=by rw[h1];exact H.row
 fresh:=by rw[h1,h2];exact H.fresh
 kind:=by rw[h1];exact H.kind
 inp:=H.inp
def TouchR(ty:TTy)(ρ:Rho)(E:Nat->Prop)(op:Op):Prop:=match kd ty op with
 |.p=>True
 |.a=>True
 |.r x=>∀ u,evR ρ x=some u->∀ b,AB4 u=.ok b->¬ E b
 |.w _=>∀ b,¬ E b
 |.q=>∀ b,¬ E b
theorem Eff.cut{T:Nat->Prop}{φ ψ:Phi}{h h':Hp}{w w':uS}(ev:Eff T φ h w ψ h' w')(hd:∀ i p,φ i=some p->i<h.next):Eff (fun c=>T c/\c<h.next) φ h w ψ h' w' where
 le:=ev.le
 new:=ev.new
 next:=ev.next
 size:=ev.size
 tape:=ev.tape
 os:=ev.os
 output:=ev.output
 frame:=fun k hk hf=>ev.frame k hk fun i p e hn ht hl=>hf i p e hn ⟨ht,hd i p e⟩ hl
 back:=fun i p e hl hp=>by
  obtain⟨j,q,e1,e2,e3,e5,e4⟩:=ev.back i p e hl hp;exact⟨j,q,e1,e2,e3,e5,e4.imp id fun ht=>⟨ht,hd j q e1⟩⟩
 kept:=fun i hi ho=>ev.kept i hi fun ht=>ho ⟨ht,hi⟩
 shape:=ev.shape
 only:=ev.only
 all:=ev.all
theorem Eff.refl(φ:Phi)(h:Hp)(w:uS):Eff (fun _=>False) φ h w φ h w where
 le:=.refl φ
 new:=fun _ _ e=>.inl e
 next:=If _
 size:=If _
 tape:=rfl
 os:=rfl
 output:=rfl
 frame:=fun _ _ _=>rfl
 back:=fun i p e hl _=>⟨i,p,e,hl,rfl,rfl,.inl rfl⟩
 kept:=fun _ _ _=>rfl
 shape:=fun _ _=>.refl _
 only:=fun _ _ _=>rfl
 all:=fun _ h1 h2=>absurd h2 (yp.2 h1)
def AFy(ty:TTy)(o:wG)(ah:ACA):Prop:=(kd ty o.op=.p\/∃ x,kd ty o.op=.r x)\/(ah≠.plain/\∀ old x xs,ah≠.chk old x xs)
structure Core (P:vA)(ty:TTy)(o:wG)(ah:ACA)(ρ:Rho)(h h':Hp)(v:IN)(T:Nat->Prop):Prop where
 AEG:∀ (φ:Phi) (E:Nat->Prop) (w:uS) (a:Act),ABh ty φ E h w->(∀ x∈o.op.operands.toList,∀ u,evR ρ x=some u->ABe φ u (a.eval x))->TouchR ty ρ E o.op->
  ∀ (next:Act->uS->Prop) (Q:Exit->Act->uS->Prop),(∀ ψ v' w',ABe ψ v v'->ABh ty ψ E h' w'->Eff T φ h w ψ h' w'->Evo φ h w ψ h' w'->next (a.put o.dst v') w')->o.wp P a w next Q
 AD0:AFy ty o ah->h'.low<=h.low/\h.high<=h'.high/\(∀ c,T c->h'.low<=c/\c<=h'.high)/\h'.mark=h.mark
 tlt:∀ c,T c->c<h.next
 tp:(kd ty o.op=.p\/∃ x,kd ty o.op=.r x)->(∀ c,¬ T c)/\h'=h
 ABn:ah=.quiet .ABn->∀ c,¬ T c
 weak:ah=.quiet .weak->∀ c,T c->h.mark<=c
 wr:∀ x xs,ah=.wr x xs->∀ c,T c->∃ u,evR ρ x=some u/\AB4 u=.ok c
structure AEn (ah:ACA)(ρ:Rho)(h:Hp):Prop where
 wrx:∀ x xs,ah=.wr x xs->∀ y∈xs,∀ u u' b,evR ρ x=some u->evR ρ y=some u'->AB4 u=.ok b->AB4 u'≠.ok b
 chk:∀ old x xs,ah=.chk old x xs->∀ y∈xs,∀ u u' b,evR ρ x=some u->evR ρ y=some u'->AB4 u=.ok b->AB4 u'≠.ok b
 old:∀ x xs,ah=.chk true x xs->∀ u b,evR ρ x=some u->AB4 u=.ok b->b<h.mark
 known:∀ x xs,(ah=.wr x xs\/∃ old,ah=.chk old x xs)->(∃ u,evR ρ x=some u)/\∀ y∈xs,∃ u,evR ρ y=some u
structure SF (P:vA)(ty:TTy)(ops:List wG)(o:wG)(ah:ACA)(ρ ρ':Rho)(h h':Hp)(v:IN)(run:Bool)(T:Nat->Prop):Prop where
 slot:∀ t u,ρ' t=some u->if o.dst=some t then u=v else ρ t=some u
 grd:match o.guard with
  |none=>run=true
  |some (g,want)=>∃ og d c,ops[g]? =some og/\og.dst=some d/\ρ d=some c/\((∃ b,c=.bool b/\run=(want == b))\/(∃ l,c=.tuple l/\run=false))
 side:kd ty o.op≠.p->AEn ah ρ h
 core:(run=true/\Core P ty o ah ρ h h' v T)\/(run=false/\v=ABd/\h'=h/\∀ c,¬ T c)
section
variable {P:vA}{ty:TTy}{F:ABZ}
theorem MF(hT:DI P ty)(hF:Dc P ty F){A:List Nat}{σ:Sg}{e:Env}{o:wG}{g g':Hp}{v:IN}(hr:opC ty ⟨A,σ⟩ o.op F e g=.ok v g')(φ:Phi)(E:Nat->Prop)(w:uS)(a:Act)(H:ABh ty φ E g w)
  (hn:∀ x∈o.op.operands.toList,∀ u,evR (ABz A σ e) x=some u->ABe φ u (a.eval x))(ht:TouchR ty (ABz A σ e) E o.op):FD P ty φ E g v g' o a w:=by
 refine pR hT hF H (f:=⟨A,σ⟩) (e:=e) (F:=F) (fun x hx y hy=>hn x hx _ (Fv hy e)) ?_ hr;unfold HJ;unfold TouchR at ht;cases hk:kd ty o.op with
 |p=>trivial
 |a=>trivial
 |r x=>rw[hk]at ht;exact fun y hy b hb=>ht _ (Fv hy e) b hb
 |w x=>rw[hk]at ht;exact ht
 |q=>rw[hk]at ht;exact ht
def Ju(h:Hp):Hp:={next:=h.next,low:=h.next,high:=0,mark:=h.mark,bl:=h.bl}
theorem L9(hT:DI P ty)(hF:Dc P ty F){A:List Nat}{σ:Sg}{e:Env}{o:wG}{ah:ACA}(hah:ah=.plain\/∃ old x xs,ah=.chk old x xs){h h':Hp}{v:IN}(hr:opC ty ⟨A,σ⟩ o.op F e h=.ok v h'):∃ T,Core P ty o ah (ABz A σ e) h h' v T:=by
 have hns:ah≠.quiet .ABn:=by rcases hah with rfl|⟨_,_,_,rfl⟩<;>exact fun h=>by cases h
 have hnw:ah≠.quiet .weak:=by rcases hah with rfl|⟨_,_,_,rfl⟩<;>exact fun h=>by cases h
 have hnr:∀ x xs,ah≠.wr x xs:=by rcases hah with rfl|⟨_,_,_,rfl⟩<;>exact fun _ _ h=>by cases h
 have hnm:¬ (ah≠.plain/\∀ old x xs,ah≠.chk old x xs):=by
  rcases hah with rfl|⟨_,_,_,rfl⟩
  ·exact fun h=>h.1 rfl
  ·exact fun h=>h.2 _ _ _ rfl
 by_cases hk:kd ty o.op=.p\/∃ x,kd ty o.op=.r x
 ·have K:=pQ (ty:=ty) (f:=⟨A,σ⟩) hk F e
  have hh:=K.same hr;have hr2:=K.at hr (Ju h) rfl;subst hh;refine⟨fun _=>False,{AEG:=fun φ E w a H hn ht next Q hnx=>?_,AD0:=fun _=>⟨If _,If _,fun _ h=>h.elim,rfl⟩,tlt:=fun _ h=>h.elim,tp:=fun _=>⟨fun _ h=>h,rfl⟩,ABn:=fun h=>absurd h hns,weak:=fun h=>absurd h hnw,wr:=fun _ _ h=>absurd h (hnr _ _)}⟩;have key:∀ ψ v' w',ABe ψ v v'->ABh ty ψ E (Ju h') w'->Evo φ (Ju h') w ψ (Ju h') w'->Eff (fun _=>False) φ h' w ψ h' w':=?_
  ·exact MF hT hF hr2 φ E w a (H.ACw rfl rfl) hn ht next Q fun ψ v' w' hv H' ev=>hnx ψ v' w' hv (H'.ACw rfl rfl) (key ψ v' w' hv H' ev) ((key ψ v' w' hv H' ev).evo (fun _ h=>h.elim) (If _) (If _))
  intro ψ v' w' hv H' ev;have e1:Eff (fun c=>h'.next<=c/\c<=0) φ h' w ψ h' w':=ev.eff.ACw rfl rfl rfl rfl;have hd:∀ i p,φ i=some p->i<h'.next:=fun i p e=>(H.dom i p e).1
  have e2:=e1.cut hd;exact {e2 with
   frame:=fun k hk hf=>e2.frame k hk fun i p e hn ht=>by omega
   back:=fun i p e hl hp=>by
    obtain⟨j,q,e1,e2,e3,e5,e4⟩:=e2.back i p e hl hp;exact⟨j,q,e1,e2,e3,e5,e4.imp id fun ht=>by omega⟩
   kept:=fun i hi _=>e2.kept i hi fun ht=>by omega}
 ·refine⟨fun c=>(h'.low<=c/\c<=h'.high)/\c<h.next,{AEG:=fun φ E w a H hn ht next Q hnx=>?_,AD0:=fun h=>absurd h (fun h=>h.elim hk hnm),tlt:=fun _ h=>h.2,tp:=fun h=>absurd h hk,ABn:=fun h=>absurd h hns,weak:=fun h=>absurd h hnw,wr:=fun _ _ h=>absurd h (hnr _ _)}⟩
  exact MF hT hF hr φ E w a H hn ht next Q fun ψ v' w' hv H' ev=>hnx ψ v' w' hv H' (ev.eff.cut fun i p e=>(H.dom i p e).1) ev
theorem JL(hT:DI P ty)(hF:Dc P ty F){A:List Nat}{σ:Sg}{e:Env}{o:wG}{ah:ACA}{h h' g':Hp}{v:IN}(hr:opC ty ⟨A,σ⟩ o.op F e (Ju h)=.ok v g')
  (h1:h'.bl=g'.bl)(h2:h'.next=g'.next)(h3:h'.low=min h.low g'.low)(h4:h'.high=max h.high g'.high)(h5:h'.mark=h.mark)
  (hs:ah=.quiet .ABn->h.next<=g'.low)(hw:ah=.quiet .weak->h.mark<=g'.low)
  (hx:∀ x xs,ah=.wr x xs->∀ c,g'.low<=c->c<=g'.high->c<h.next->∃ u,evR (ABz A σ e) x=some u/\AB4 u=.ok c)(hnk:¬ (kd ty o.op=.p\/∃ x,kd ty o.op=.r x)):∃ T,Core P ty o ah (ABz A σ e) h h' v T:=by
 refine⟨fun c=>(g'.low<=c/\c<=g'.high)/\c<h.next,{AEG:=fun φ E w a H hn ht next Q hnx=>?_,AD0:=fun _=>⟨by omega,by omega,fun c h=>by omega,h5⟩,tlt:=fun _ h=>h.2,tp:=fun h=>absurd h hnk,ABn:=fun h c hc=>?_,weak:=fun h c hc=>?_,wr:=fun x xs h c hc=>hx x xs h c hc.1.1 hc.1.2 hc.2}⟩
 ·refine MF hT hF hr φ E w a (H.ACw rfl rfl) hn ht next Q fun ψ v' w' hv H' ev=>?_
  have e1:Eff (fun c=>g'.low<=c/\c<=g'.high) φ h w ψ h' w':=ev.eff.ACw rfl rfl h1 h2;exact hnx ψ v' w' hv (H'.ACw h1 h2) (e1.cut fun i p e=>(H.dom i p e).1) (e1.evo (fun c h=>by omega) (by omega) (by omega))
 ·have:=hs h;omega
 ·have:=hw h;omega
end
end
noncomputable section
open Go
section
variable {P:vA}{ty:TTy}{F:ABZ}
structure AD1 (ty:TTy)(o:wG)(ah:ACA):Prop where
 quiet:∀ m,ah=.quiet m->¬ (kd ty o.op=.p\/∃ x,kd ty o.op=.r x)
 wr:∀ x xs,ah=.wr x xs->kd ty o.op=.w x
 chk:∀ old x xs,ah=.chk old x xs->kd ty o.op=.r x
theorem AD1.plain(ty:TTy)(o:wG):AD1 ty o .plain:=⟨(fun _ h=>by cases h),(fun _ _ h=>by cases h),(fun _ _ _ h=>by cases h)⟩
theorem KC{b:Nat}{e:Env}:∀ {rs:List (Env->IN)},CY b e rs=true->∀ g∈rs,AB4 (g e)≠.ok b
 |[],_,g,hg=>by cases hg
 |x::l,h,g,hg=>by
  unfold CY at h;cases hb:AB4 (x e)with
  |no=>
   rw[hb]at h;rcases uA.1 hg with rfl|hg
   ·rw[hb];exact fun h=>by cases h
   ·exact KC h g hg
  |ok a=>
   rw[hb]at h;simp only at h;cases hq:tm a b with
   |true=>rw[hq]at h;cases h
   |false=>
    rw[hq]at h;rcases uA.1 hg with rfl|hg
    ·rw[hb];exact fun h=>by cases h;exact FR hq rfl
    ·exact KC h g hg
theorem UN{w:Env->IN}{rs:List (Env->IN)}{k:C}{e:Env}{h:Hp}{X:X}(hr:Cf w rs k F e h=X)(hn:X≠.no):k F e h=X/\∀ b,AB4 (w e)=.ok b->∀ g∈rs,AB4 (g e)≠.ok b:=by
 unfold Cf at hr;cases hb:AB4 (w e)with
 |no=>rw[hb]at hr;exact⟨hr,fun b h=>by cases h⟩
 |ok b=>
  rw[hb]at hr;simp only at hr;cases hc:CY b e rs with
  |false=>rw[hc]at hr;exact absurd hr.symm hn
  |true=>rw[hc]at hr;exact⟨hr,fun b' h=>by cases h;exact KC hc⟩
theorem cy{x:O}{k:C}{e:Env}{h:Hp}{X:X}(hr:EQ x k F e h=X)(hn:X≠.no):k F e h=X/\∀ b,AB4 (x e)=.ok b->b<h.mark:=by
 unfold EQ at hr;cases hb:AB4 (x e)with
 |no=>rw[hb]at hr;exact⟨hr,fun b h=>by cases h⟩
 |ok b=>
  rw[hb]at hr;simp only at hr;cases hc:uz b h.mark with
  |false=>rw[hc]at hr;exact absurd hr.symm hn
  |true=>rw[hc]at hr;exact⟨hr,fun b' h=>by cases h;exact Ba.1 hc⟩
theorem JF{f:Fr}:∀ {l:List uQ} {ys:List O},cOs f l=some ys->∀ x∈l,∃ y,cO f x=some y/\y∈ys
 |[],ys,h,x,hx=>by cases hx
 |z::l,ys,h,x,hx=>by
  unfold cOs at h;split at h
  ·rename_i y hy
   split at h
   ·rename_i r hr
    cases h;rcases uA.1 hx with rfl|hx
    ·exact⟨y,hy,te⟩
    ·obtain⟨y',h1,h2⟩:=JF hr x hx
     exact⟨y',h1,td _ h2⟩
   ·cases h
  ·cases h
theorem P8{h g' h':Hp}{v u:IN}(hr:Df h v g'=.ok u h'):u=v/\h'.bl=g'.bl/\h'.next=g'.next/\h'.low=min h.low g'.low/\h'.high=max h.high g'.high/\h'.mark=h.mark:=by
 unfold Df at hr;rw[Am,Am,BW,B7]at hr;cases hr;exact⟨rfl,rfl,rfl,rfl,rfl,rfl⟩
theorem AEn.none{ah:ACA}{ρ:Rho}{h:Hp}(h1:∀ x xs,ah≠.wr x xs)(h2:∀ old x xs,ah≠.chk old x xs):AEn ah ρ h where
 wrx:=fun x xs e=>absurd e (h1 x xs)
 chk:=fun old x xs e=>absurd e (h2 old x xs)
 old:=fun x xs e=>absurd e (h2 true x xs)
 known:=fun x xs e=>by
  rcases e with e|⟨old,e⟩
  ·exact absurd e (h1 x xs)
  ·exact absurd e (h2 old x xs)
theorem Ln(hT:DI P ty)(hF:Dc P ty F){A:List Nat}{σ:Sg}{e:Env}{h:Hp}{o:wG}{ah:ACA}(hA:AD1 ty o ah){kc:OpF->C}{X:X}(hr:HL ⟨A,σ⟩ ah (opC ty ⟨A,σ⟩ o.op) kc F e h=X)(hn:X≠.no):
  ∃ p,kc p F e h=X/\(∀ v h',p F e h=.ok v h'->∃ T,Core P ty o ah (ABz A σ e) h h' v T)/\AEn ah (ABz A σ e) h:=by
 cases ah with
 |plain=>exact⟨_,hr,fun v h' hp=>L9 hT hF (.inl rfl) hp,.none (fun _ _ h=>by cases h) (fun _ _ _ h=>by cases h)⟩
 |quiet m=>
  refine⟨_,hr,fun v h' hp=>?_,.none (fun _ _ h=>by cases h) (fun _ _ _ h=>by cases h)⟩;have hk:=hA.quiet m rfl;unfold Aa at hp;have hp:(match opC ty ⟨A,σ⟩ o.op F e (Ju h)with|.ok v h'=>bif qOk m h h'.low then Df h v h' else .no|.no=>.no)=.ok v h':=hp;cases hq:opC ty ⟨A,σ⟩ o.op F e (Ju h)with
  |no=>rw[hq]at hp;cases hp
  |ok u g'=>
   rw[hq]at hp;obtain⟨hc,hp⟩:=B3 hp;obtain⟨rfl,h1,h2,h3,h4,h5⟩:=P8 hp;refine JL hT hF hq h1 h2 h3 h4 h5 (fun e=>?_) (fun e=>?_) (fun _ _ e=>by cases e) hk
   ·cases e;exact Ar.1 hc
   ·cases e;exact Ar.1 hc
 |wr x xs=>
  have hk:=hA.wr x xs rfl;unfold HL at hr;simp only at hr;cases h1:cO ⟨A,σ⟩ x with
  |none=>simp only[h1]at hr;exact absurd hr.symm hn
  |some x'=>
   cases h2:cOs ⟨A,σ⟩ xs with
   |none=>simp only[h1,h2]at hr;exact absurd hr.symm hn
   |some xs'=>
    simp only[h1,h2]at hr;obtain⟨hr,hap⟩:=UN hr hn;refine⟨_,hr,fun v h' hp=>?_,?_⟩
    ·unfold Ix at hp
     have hp:(match opC ty ⟨A,σ⟩ o.op F e (Ju h)with|.ok v h'=>bif Id (AB4 (x' e)) h h'.low h'.high then Df h v h' else .no|.no=>.no)=.ok v h':=hp;cases hq:opC ty ⟨A,σ⟩ o.op F e (Ju h)with
     |no=>rw[hq]at hp;cases hp
     |ok u g'=>
      rw[hq]at hp;obtain⟨hc,hp⟩:=B3 hp;obtain⟨rfl,q1,q2,q3,q4,q5⟩:=P8 hp;refine JL hT hF hq q1 q2 q3 q4 q5 (fun e=>by cases e) (fun e=>by cases e) (fun y ys he c c1 c2 c3=>?_) (by rw[hk];rintro (h|⟨_,h⟩)<;>cases h);cases he;refine⟨x' e,Fv h1 e,?_⟩;unfold Id at hc;cases hb:AB4 (x' e)with
      |no=>rw[hb]at hc;have hc:=Ar.1 hc;omega
      |ok b=>
       rw[hb]at hc;simp only at hc;cases hb1:tz b g'.low with
       |false=>rw[hb1]at hc;cases hc
       |true=>
        rw[hb1]at hc;have c4:=Ar.1 hb1;have c5:=Ar.1 hc
        congr 1;omega
    ·refine {wrx:=fun y ys he z hz u u' b hu hu' hb=>?_,chk:=fun _ _ _ h=>(by cases h),old:=fun _ _ h=>(by cases h),known:=fun y ys he=>?_}
     ·cases he
      obtain⟨z',hz1,hz2⟩:=JF h2 z hz;rw[Fv h1 e]at hu;cases hu;rw[Fv hz1 e]at hu';cases hu';exact hap b hb z' hz2
     ·rcases he with he|⟨_,he⟩
      ·cases he
       exact⟨⟨_,Fv h1 e⟩,fun z hz=>by obtain⟨z',hz1,_⟩:=JF h2 z hz;exact⟨_,Fv hz1 e⟩⟩
      ·cases he
 |chk old x xs=>
  unfold HL at hr;simp only at hr;cases h1:cO ⟨A,σ⟩ x with
  |none=>simp only[h1]at hr;exact absurd hr.symm hn
  |some x'=>
   cases h2:cOs ⟨A,σ⟩ xs with
   |none=>simp only[h1,h2]at hr;exact absurd hr.symm hn
   |some xs'=>
    simp only[h1,h2]at hr;have hold:Cf x' xs' (kc (opC ty ⟨A,σ⟩ o.op)) F e h=X/\(old=true->∀ b,AB4 (x' e)=.ok b->b<h.mark):=by
     cases old with
     |true=>obtain⟨q1,q2⟩:=cy hr hn;exact⟨q1,fun _=>q2⟩
     |false=>exact⟨hr,fun h=>by cases h⟩
    obtain⟨hr,hap⟩:=UN hold.1 hn;refine⟨_,hr,fun v h' hp=>L9 hT hF (.inr ⟨_,_,_,rfl⟩) hp,?_⟩;refine {wrx:=fun _ _ h=>(by cases h),chk:=fun _ y ys he z hz u u' b hu hu' hb=>?_,old:=fun y ys he u b hu hb=>?_,known:=fun y ys he=>?_}
    ·cases he
     obtain⟨z',hz1,hz2⟩:=JF h2 z hz;rw[Fv h1 e]at hu;cases hu;rw[Fv hz1 e]at hu';cases hu';exact hap b hb z' hz2
    ·cases he
     rw[Fv h1 e]at hu;cases hu;exact hold.2 rfl b hb
    ·rcases he with he|⟨_,he⟩
     ·cases he
     ·cases he
      exact⟨⟨_,Fv h1 e⟩,fun z hz=>by obtain⟨z',hz1,_⟩:=JF h2 z hz;exact⟨_,Fv hz1 e⟩⟩
structure Tr (P:vA)(ty:TTy)(all:List wG)(ahs:List ACA)(l:List wG)(ρ:Nat->Rho)(H:Nat->Hp)(V:Nat->IN)(run:Nat->Bool)(T:Nat->Nat->Prop):Prop where
 sf:∀ j o,l[j]? =some o->SF P ty all o (ahs.getD j .plain) (ρ j) (ρ (j+1)) (H j) (H (j+1)) (V j) (run j) (T j)
def QG{α:Type}(x:α)(f:Nat->α):Nat->α
 |0=>x
 |j+1=>f j
theorem Tr.cons{all:List wG}{ahs:List ACA}{o:wG}{l:List wG}{ρ:Nat->Rho}{H:Nat->Hp}{V:Nat->IN}{run:Nat->Bool}{T:Nat->Nat->Prop}(t:Tr P ty all ahs.tail l ρ H V run T)
  {ρ0:Rho}{h0:Hp}{v0:IN}{r0:Bool}{T0:Nat->Prop}(s:SF P ty all o (ahs.headD .plain) ρ0 (ρ 0) h0 (H 0) v0 r0 T0):Tr P ty all ahs (o::l) (QG ρ0 ρ) (QG h0 H) (QG v0 V) (QG r0 run) (QG T0 T) where
 sf:=fun j o' hj=>by
  cases j with
  |zero=>
   cases hj;have:ahs.getD 0 .plain=ahs.headD .plain:=by cases ahs<;>rfl
   rw[this];exact s
  |succ j=>
   have:ahs.getD (j+1) .plain=ahs.tail.getD j .plain:=by cases ahs<;>rfl
   rw[this];exact t.sf j o' hj
theorem NA{A:List Nat}{σ:Sg}{e:Env}(hS:ACq A σ){d:Nat}(hd:memN d A=false)(hlt:d<240)(v:IN){o:wG}(ho:o.dst=some d)(t:Nat)(u:IN)
  (h:ABz A (Fz d σ) (Env.set d v e) t=some u):if o.dst=some t then u=v else ABz A σ e t=some u:=by
 have:=gx hS hd hlt v h;rw[ho];by_cases ht:t=d
 ·rw[if_pos ht]at this;rw[if_pos (by rw[ht])];exact this
 ·rw[if_neg ht]at this;rw[if_neg (fun e=>ht (Option.some.inj e).symm)];exact this
theorem PX(hT:DI P ty)(hF:Dc P ty F){A:List Nat}{all:List wG}{k:Sg->C}:∀ (l:List wG) (ahs:List ACA) (σ:Sg) (e:Env) (h:Hp) (X:X),(∀ j o,l[j]? =some o->AD1 ty o (ahs.getD j .plain))->ACq A σ->
  Gy ty A all k ahs l σ F e h=X->X≠.no->
  ∃ (ρ:Nat->Rho) (H:Nat->Hp) (V:Nat->IN) (run:Nat->Bool) (T:Nat->Nat->Prop) (σ':Sg) (e':Env),Tr P ty all ahs l ρ H V run T/\ρ 0=ABz A σ e/\H 0=h/\ρ l.length=ABz A σ' e'/\ACq A σ'/\k σ' F e' (H l.length)=X
 |[],ahs,σ,e,h,X,_,hS,hr,_=>by
  refine⟨fun _=>ABz A σ e,fun _=>h,fun _=>ABd,fun _=>true,fun _ _=>False,σ,e,⟨fun j o hj=>by cases hj⟩,rfl,rfl,rfl,hS,?_⟩;unfold Gy at hr;exact hr
 |o::l,ahs,σ,e,h,X,hA,hS,hr,hn=>by
  have hA0:AD1 ty o (ahs.headD .plain):=by
   have:=hA 0 o rfl;cases ahs<;>exact this
  have hA1:∀ j o',l[j]? =some o'->AD1 ty o' (ahs.tail.getD j .plain):=fun j o' hj=>by
   have:=hA (j+1) o' hj;cases ahs<;>exact this
  have fin:∀ {σ1:Sg} {e1:Env} {h1:Hp} {v:IN} {r:Bool} {T0:Nat->Prop},ACq A σ1->Gy ty A all k ahs.tail l σ1 F e1 h1=X->
    SF P ty all o (ahs.headD .plain) (ABz A σ e) (ABz A σ1 e1) h h1 v r T0->
    ∃ (ρ:Nat->Rho) (H:Nat->Hp) (V:Nat->IN) (run:Nat->Bool) (T:Nat->Nat->Prop) (σ':Sg) (e':Env),Tr P ty all ahs (o::l) ρ H V run T/\ρ 0=ABz A σ e/\H 0=h/\ρ (o::l).length=ABz A σ' e'/\ACq A σ'/\k σ' F e' (H (o::l).length)=X:=by
   intro σ1 e1 h1 v r T0 hS1 hr1 sf;obtain⟨ρ,H,V,run,T,σ',e',t,q1,q2,q3,q4,q5⟩:=PX hT hF l ahs.tail σ1 e1 h1 X hA1 hS1 hr1 hn;exact⟨_,_,_,_,_,σ',e',t.cons (by rw[q1,q2];exact sf),rfl,rfl,q3,q4,q5⟩
  unfold Gy at hr;cases hg:o.guard with
  |none=>
   cases hd:o.dst with
   |none=>
    simp only[hg,hd]at hr;obtain⟨p,hp,ADB,ADJ⟩:=Ln hT hF hA0 hr hn;unfold cDo at hp;cases hq:p F e h with
    |no=>rw[hq]at hp;exact absurd hp.symm hn
    |ok v h1=>
     rw[hq]at hp;obtain⟨T0,core⟩:=ADB v h1 hq;exact fin hS hp {slot:=fun t u ht=>(by rw[hd,if_neg (by intro h;cases h)];exact ht),grd:=(by rw[hg]),side:=fun _=>ADJ,core:=.inl ⟨rfl,core⟩}
   |some d=>
    simp only[hg,hd]at hr;cases hm:memN d A with
    |true=>
     simp only[hm]at hr;cases hop:o.op with
     |move x=>
      simp only[hop]at hr;cases hs:Pf A σ x with
      |none=>simp only[hs]at hr;exact absurd hr.symm hn
      |some s=>
       simp only[hs]at hr;have hlt:∀ n,s=.s n->n<240:=by
        intro n hn;subst hn;cases x with
        |tmp t=>
         have hs:(match De t σ with|some s=>some s|none=>match memN t A with|true=>none|false=>match uz t 240 with|true=>some (Src.s t)|false=>none)=some (.s n):=hs;cases hf:De t σ with
         |some s'=>
          rw[hf]at hs;cases hs;exact hS.lt _ (Ej hf) n rfl
         |none=>
          rw[hf]at hs;simp only at hs;cases hm2:memN t A with
          |true=>rw[hm2]at hs;cases hs
          |false=>
           rw[hm2]at hs;simp only at hs;cases hb:uz t 240 with
           |false=>rw[hb]at hs;cases hs
           |true=>rw[hb]at hs;cases hs;exact Ba.1 hb
        |const v=>
         have hs:(match Fh v with|true=>some (Src.c v)|false=>none)=some (.s n):=hs;cases hp:Fh v<;>rw[hp]at hs<;>cases hs
        |func g=>cases hs
        |global g=>cases hs
       have hkp:kd ty o.op=.p:=by rw[hop];rfl
       refine fin (hS.alias hm hlt) hr (v:=LO s e) (r:=true) (T0:=fun _=>False) {slot:=fun t u ht=>?_,grd:=(by rw[hg]),side:=fun h=>absurd hkp h,core:=.inl ⟨rfl,?_⟩}
       ·have:=Xk hS hm s ht
        rw[hd];by_cases htd:t=d
        ·rw[if_pos htd]at this;rw[if_pos (by rw[htd])];exact this
        ·rw[if_neg htd]at this;rw[if_neg (fun e=>htd (Option.some.inj e).symm)];exact this
       ·refine {AEG:=fun φ E w a H hn ht next Q hnx=>?_,AD0:=fun _=>⟨If _,If _,fun _ h=>h.elim,rfl⟩,tlt:=fun _ h=>h.elim,tp:=fun _=>⟨fun _ h=>h,rfl⟩,ABn:=fun _ _ h=>h,weak:=fun _ _ h=>h.elim,wr:=fun _ _ _ _ h=>h.elim}
        have hv:=hn x (by rw[hop];simp[Op.operands]) _ (bZ hs e);have hx:execOp a.eval o=(do pure (.value (<- (pure (a.eval x):Sem IN)))):=by unfold execOp;rw[hop];rfl
        unfold Oper.wp;rw[hx,Sem.run_bind,tg,Result.andThen_ok,tg,Oper.upon_value];exact hnx φ _ w hv H (.refl _ _ _) (.refl _ _ _)
     |_=>simp only[hop]at hr;exact absurd hr.symm hn
    |false=>
     simp only[hm]at hr;cases hb:uz d 240 with
     |false=>simp only[hb]at hr;exact absurd hr.symm hn
     |true=>
      simp only[hb]at hr;have hlt:=Ba.1 hb;obtain⟨p,hp,ADB,ADJ⟩:=Ln hT hF hA0 hr hn;unfold SS at hp;cases hq:p F e h with
      |no=>rw[hq]at hp;exact absurd hp.symm hn
      |ok v h1=>
       rw[hq]at hp;simp only at hp;rw[ED d hlt]at hp;obtain⟨T0,core⟩:=ADB v h1 hq;exact fin (hS.sub Ei.1) hp {slot:=NA hS hm hlt v hd,grd:=(by rw[hg]),side:=fun _=>ADJ,core:=.inl ⟨rfl,core⟩}
  |some gw=>
   obtain⟨g,want⟩:=gw;cases hd:o.dst with
   |none=>simp only[hg,hd]at hr;exact absurd hr.symm hn
   |some d=>
    simp only[hg,hd]at hr;cases hm:memN d A with
    |true=>simp only[hm]at hr;exact absurd hr.symm hn
    |false=>
     simp only[hm]at hr;rw[GI]at hr;cases hog:all[g]? with
     |none=>rw[hog]at hr;exact absurd hr.symm hn
     |some og=>
      rw[hog]at hr;simp only at hr;cases hgd:og.dst with
      |none=>simp only[hgd]at hr;exact absurd hr.symm hn
      |some dg=>
       simp only[hgd]at hr;cases hcg:cO ⟨A,σ⟩ (.tmp dg)with
       |none=>simp only[hcg]at hr;exact absurd hr.symm hn
       |some gg=>
        simp only[hcg]at hr;cases hb:uz d 240 with
        |false=>simp only[hb]at hr;exact absurd hr.symm hn
        |true=>
         simp only[hb]at hr;have hlt:=Ba.1 hb;obtain⟨p,hp,ADB,ADJ⟩:=Ln hT hF hA0 hr hn;have hρ:ABz A σ e dg=some (gg e):=Fv hcg e;unfold cG at hp;have ADT:FF d (fun e=>Gy ty A all k ahs.tail l (Fz d σ) F e h) ABd e=X->(∀ r:Bool,r=false->(match o.guard with
            |none=>r=true
            |some (g,want)=>∃ og d c,all[g]? =some og/\og.dst=some d/\ABz A σ e d=some c/\((∃ b,c=.bool b/\r=(want == b))\/(∃ l,c=.tuple l/\r=false))))->
           ∃ (ρ:Nat->Rho) (H:Nat->Hp) (V:Nat->IN) (run:Nat->Bool) (T:Nat->Nat->Prop) (σ':Sg) (e':Env),Tr P ty all ahs (o::l) ρ H V run T/\ρ 0=ABz A σ e/\H 0=h/\ρ (o::l).length=ABz A σ' e'/\ACq A σ'/\k σ' F e' (H (o::l).length)=X:=by
          intro hp AGo;rw[ED d hlt]at hp;exact fin (hS.sub Ei.1) hp (v:=ABd) (r:=false) (T0:=fun _=>False) {slot:=NA hS hm hlt ABd hd,grd:=AGo false rfl,side:=fun _=>ADJ,core:=.inr ⟨rfl,rfl,rfl,fun _ h=>h⟩}
         split at hp
         ·rename_i b hgb
          cases hwb:want == b with
          |true=>
           rw[hwb]at hp;simp only[cond_true]at hp;unfold SS at hp;cases hq:p F e h with
           |no=>rw[hq]at hp;exact absurd hp.symm hn
           |ok v h1=>
            rw[hq]at hp;simp only at hp;rw[ED d hlt]at hp;obtain⟨T0,core⟩:=ADB v h1 hq;exact fin (hS.sub Ei.1) hp (r:=true) {slot:=NA hS hm hlt v hd,grd:=(by rw[hg];exact⟨og,dg,_,hog,hgd,hρ,.inl ⟨b,hgb,hwb.symm⟩⟩),side:=fun _=>ADJ,core:=.inl ⟨rfl,core⟩}
          |false=>
           rw[hwb]at hp;exact ADT hp fun r hr=>by rw[hg];exact⟨og,dg,_,hog,hgd,hρ,.inl ⟨b,hgb,by rw[hr,hwb]⟩⟩
         ·rename_i ls hgb
          exact ADT hp fun r hr=>by rw[hg];exact⟨og,dg,_,hog,hgd,hρ,.inr ⟨ls,hgb,hr⟩⟩
         ·exact absurd hp.symm hn
end
end
noncomputable section
open Go
abbrev nil:Nat->Prop:=fun _=>False
structure AR (N:Nat)(φ:Phi)(ρ:Rho)(a:Act):Prop where
 size:a.tmps.size=N
 defs:a.defers=[]
 rel:∀ t u,ρ t=some u->ABe φ u (a.tmps.getD t undef)
theorem AR.ev{N:Nat}{φ:Phi}{ρ:Rho}{a:Act}(h:AR N φ ρ a){x:uQ}{u:IN}(hu:evR ρ x=some u):ABe φ u (a.eval x):=by
 cases x with
 |tmp t=>exact h.rel t u hu
 |const v=>
  have hu:(if Fh v then some v else none)=some u:=hu;split at hu
  ·rename_i hp;cases hu;exact Mv hp
  ·cases hu
 |func g=>cases hu;exact .func _ .nil .nil
 |global g=>cases hu
theorem Hm(a:Act)(d:Option Nat)(v:IN)(t:Nat):(a.put d v).tmps.getD t undef=if d=some t/\t<a.tmps.size then v else a.tmps.getD t undef:=by
 cases d with
 |none=>rw[if_neg (fun h=>by cases h.1)];rfl
 |some d=>
  show(a.tmps.setIfInBounds d v).getD t undef=_;rw[uw,Array.getElem?_setIfInBounds,uw];by_cases h:d=t
  ·subst h
   rw[if_pos rfl];by_cases h2:d<a.tmps.size
   ·rw[if_pos h2,if_pos ⟨rfl,h2⟩];rfl
   ·rw[if_neg h2,if_neg (fun h=>h2 h.2),Array.getElem?_eq_none (by omega)]
  ·rw[if_neg h,if_neg (fun h2=>h (Option.some.inj h2.1))]
theorem Fi(a:Act)(d:Option Nat)(v:IN):(a.put d v).tmps.size=a.tmps.size:=by
 cases d with
 |none=>rfl
 |some d=>show(a.tmps.setIfInBounds d v).size=_;simp
theorem Ge(a:Act)(d:Option Nat)(v:IN):(a.put d v).defers=a.defers:=by cases d<;>rfl
theorem AR.put{N:Nat}{φ ψ:Phi}{ρ ρ':Rho}{a:Act}(h:AR N φ ρ a)(hle:φ.Le ψ){d:Option Nat}(hd:∀ t,d=some t->t<N){v v':IN}(hv:ABe ψ v v')
  (hs:∀ t u,ρ' t=some u->if d=some t then u=v else ρ t=some u):AR N ψ ρ' (a.put d v') where
 size:=by rw[Fi];exact h.size
 defs:=by rw[Ge];exact h.defs
 rel:=fun t u hu=>by
  have:=hs t u hu;rw[Hm];by_cases ht:d=some t
  ·rw[if_pos ht]at this
   rw[if_pos ⟨ht,by rw[h.size];exact hd t ht⟩,this];exact hv
  ·rw[if_neg ht]at this
   rw[if_neg (fun h=>ht h.1)];exact(h.rel t u this).mono hle
theorem Oc{P:vA}{ty:TTy}{all:List wG}{o:wG}{ah:ACA}{ρ ρ':Rho}{h h':Hp}{v:IN}{run:Bool}{T:Nat->Prop}(s:SF P ty all o ah ρ ρ' h h' v run T){a:Act}{φ:Phi}
  (hr:∀ g want og d u,o.guard=some (g,want)->all[g]? =some og->og.dst=some d->ρ d=some u->ABe φ u (a.tmps.getD d undef)):yJ o (yielded all.toArray a.tmps)=run:=by
 have hg:=s.grd;unfold yJ;cases hgd:o.guard with
 |none=>rw[hgd]at hg;exact hg.symm
 |some gw=>
  obtain⟨g,want⟩:=gw;rw[hgd]at hg;obtain⟨og,d,c,h1,h2,h3,h4⟩:=hg;have ACE:=hr g want og d c hgd h1 h2 h3;simp only;have hy:yielded all.toArray a.tmps g=match a.tmps[d]? with|some (.bool b)=>some b|_=>none:=by
   unfold yielded;have:(all.toArray[g]?).bind (·.dst)=some d:=by rw[List.getElem?_toArray,h1];exact h2
   rw[this];rfl
  rw[uw]at ACE;rcases h4 with ⟨b,rfl,hrun⟩|⟨ls,rfl,hrun⟩
  ·have hb:=ACE.ACT
   cases hq:a.tmps[d]? with
   |none=>rw[hq]at hb;cases hb
   |some x=>
    rw[hq]at hb;have hb:x=.bool b:=hb;rw[hy,hq,hb,hrun];cases b<;>cases want<;>rfl
  ·rw[hrun,hy]
   cases hq:a.tmps[d]? with
   |none=>rfl
   |some x=>
    rw[hq]at ACE;have ACE:ABe φ (.tuple ls) x:=ACE;cases ACE;rfl
structure Txt (P:vA)(ty:TTy)(N:Nat)(φ0:Phi)(ρ:Nat->Rho)(H:Nat->Hp)(V:Nat->IN)(T:Nat->Nat->Prop)(n:Nat):Prop where
 next:∀ j,j<n->(H j).next<=(H (j+1)).next
 shape:∀ j,j<n->∀ i,i<(H j).next->ABt ((H j).bl.get i) ((H (j+1)).bl.get i)
 kept:∀ j,j<n->∀ i,i<(H j).next->¬ T j i->(H (j+1)).bl.get i=(H j).bl.get i
 fresh:∀ j,j<=n->∀ i,(H j).next<=i->(H j).bl.get i=.dead
 AEo:∀ j,j<=n->∃ (ψ:Phi) (w:uS) (a:Act),ABh ty ψ nil (H j) w/\AR N ψ (ρ j) a/\φ0.Le ψ/\∀ i,(H 0).next<=i->i<(H j).next->∃ p,ψ i=some p
section
variable {P:vA}{ty:TTy}
theorem Pk{N:Nat}{all:List wG}{Q:Exit->Act->uS->Prop}:∀ (l:List wG) {ahs:List ACA} {ρ:Nat->Rho} {H:Nat->Hp} {V:Nat->IN} {run:Nat->Bool} {T:Nat->Nat->Prop} {a:Act} {w:uS} {φ:Phi},
  Tr P ty all ahs l ρ H V run T->(∀ o∈l,∀ d,o.dst=some d->d<N)->ABh ty φ nil (H 0) w->AR N φ (ρ 0) a->
  (Txt P ty N φ ρ H V T l.length->∀ ψ a' w',ABh ty ψ nil (H l.length) w'->AR N ψ (ρ l.length) a'->Evo φ (H 0) w ψ (H l.length) w'->Q .normal a' w')->wpList P all.toArray Q l a w
 |[],ahs,ρ,H,V,run,T,a,w,φ,_,_,HW,HA,hq=>by
  refine hq ?_ φ a w HW HA (.refl _ _ _);refine {next:=fun j hj=>absurd hj (yL _),shape:=fun j hj=>absurd hj (yL _),kept:=fun j hj=>absurd hj (yL _),fresh:=fun j hj i hi=>?_,AEo:=fun j hj=>?_}
  ·have:j=0:=xQ.1 hj
   subst this;exact HW.fresh i hi
  ·have:j=0:=xQ.1 hj
   subst this;exact⟨φ,w,a,HW,HA,.refl _,fun i h1 h2=>absurd h2 (yp.2 h1)⟩
 |o::l,ahs,ρ,H,V,run,T,a,w,φ,tr,hN,HW,HA,hq=>by
  have s:=tr.sf 0 o rfl;have tr':Tr P ty all ahs.tail l (fun j=>ρ (j+1)) (fun j=>H (j+1)) (fun j=>V (j+1)) (fun j=>run (j+1)) (fun j=>T (j+1)):=
   ⟨fun j o' hj=>by
    have:=tr.sf (j+1) o' hj;have e:ahs.getD (j+1) .plain=ahs.tail.getD j .plain:=by cases ahs<;>rfl
    rw[e]at this;exact this⟩
  have hd:∀ d,o.dst=some d->d<N:=hN o te;have rest:∀ ψ v' w',ABe ψ (V 0) v'->ABh ty ψ nil (H 1) w'->Eff (T 0) φ (H 0) w ψ (H 1) w'->Evo φ (H 0) w ψ (H 1) w'->wpList P all.toArray Q l (a.put o.dst v') w':=by
   intro ψ v' w' hv HW' eff evo;refine Pk l tr' (fun o ho=>hN o (td _ ho)) HW' (HA.put eff.le hd hv s.slot) fun txt ψ2 a2 w2 q1 q2 q3=>hq ?_ ψ2 a2 w2 q1 q2 (evo.trans q3)
   refine {next:=fun j hj=>?_,shape:=fun j hj=>?_,kept:=fun j hj=>?_,fresh:=fun j hj i hi=>?_,AEo:=fun j hj=>?_}
   ·cases j with
    |zero=>exact eff.next
    |succ j=>exact txt.next j (by simpa using hj)
   ·cases j with
    |zero=>exact eff.shape
    |succ j=>exact txt.shape j (by simpa using hj)
   ·cases j with
    |zero=>exact eff.kept
    |succ j=>exact txt.kept j (by simpa using hj)
   ·cases j with
    |zero=>exact HW.fresh i hi
    |succ j=>exact txt.fresh j (by simpa using hj) i hi
   ·cases j with
    |zero=>exact⟨φ,w,a,HW,HA,.refl _,fun i h1 h2=>absurd h2 (yp.2 h1)⟩
    |succ j=>
     obtain⟨χ,w3,a3,r1,r2,r3,r4⟩:=txt.AEo j (by simpa using hj);refine⟨χ,w3,a3,r1,r2,eff.le.trans r3,fun i h1 h2=>?_⟩;rcases uG i (H 1).next with h|h
     ·obtain⟨p,hp⟩:=eff.all i h1 h
      exact⟨p,r3 i p hp⟩
     ·exact r4 i h h2
  have hw:=Oc s (a:=a) (φ:=φ) fun g want og d u _ _ _ hu=>HA.rel d u hu
  unfold wpList;rcases s.core with ⟨hrun,core⟩|⟨hrun,hv,hh,hT⟩
  ·rw[hw,hrun,if_pos rfl]
   refine .inl (core.AEG φ nil w a HW (fun x _ u hu=>HA.ev hu) ?_ _ _ fun ψ v' w' hv HW' eff evo=>rest ψ v' w' hv HW' eff evo);unfold TouchR;split<;>first|trivial|exact fun _ h=>h|exact fun _ _ _ _ h=>h
  ·rw[hw,hrun,if_neg (by simp)]
   have hu:ABe φ (V 0) undef:=by rw[hv];exact .tuple .nil
   have e1:Evo φ (H 0) w φ (H 1) w:=by
    show Evo φ (H 0) w φ (H (0+1)) w;rw[hh];exact .refl _ _ _
   have e2:Eff (T 0) φ (H 0) w φ (H 1) w:=by
    show Eff (T 0) φ (H 0) w φ (H (0+1)) w;rw[hh];exact {Eff.refl φ (H 0) w with frame:=fun _ _ _=>rfl,back:=fun i p e hl _=>⟨i,p,e,hl,rfl,rfl,.inl rfl⟩,kept:=fun _ _ _=>rfl}
   exact rest φ undef w hu (by show ABh ty φ nil (H (0+1)) w;rw[hh];exact HW) e2 e1
end
end
noncomputable section
open Go
section
variable {φ ψ χ:Phi}
theorem ACo.cut(hx:∀ b p,φ b=some p->(∃ q,ψ b=some q)->χ b=some p){a a' a'':Addr}:ACo φ a a'->ACo ψ a a''->ACo χ a a'
 |⟨s,s',p,hp,r⟩,⟨_,_,q,hq,_⟩=>⟨s,s',p,hx _ _ hp ⟨q,hq⟩,r⟩
theorem ADG.cut(hx:∀ b p,φ b=some p->(∃ q,ψ b=some q)->χ b=some p){a a' a'':Addr}{c c' c'':Nat}:ADG φ a c a' c'->ADG ψ a c a'' c''->ADG χ a c a' c'
 |⟨s,s',p,hp,r⟩,⟨_,_,q,hq,_⟩=>⟨s,s',p,hx _ _ hp ⟨q,hq⟩,r⟩
mutual
theorem ABe.cut(hx:∀ b p,φ b=some p->(∃ q,ψ b=some q)->χ b=some p):∀ {v v' v'':IN},ABe φ v v'->ABe ψ v v''->ABe χ v v'
 |_,_,_,.bool b,_=>.bool b
 |_,_,_,.int k n,_=>.int k n
 |_,_,_,.string s,_=>.string s
 |_,_,_,.AEC,_=>.AEC
 |_,_,_,.ptr h,h2=>by cases h2 with|ptr h2=>exact .ptr (h.cut hx h2)
 |_,_,_,.ACR,_=>.ACR
 |_,_,_,.slice hn h,h2=>by cases h2 with|slice _ h2=>exact .slice hn (h.cut hx h2)
 |_,_,_,.AED,_=>.AED
 |_,_,_,.map h,h2=>by cases h2 with|map h2=>exact .map (hx _ _ h ⟨_,h2⟩)
 |_,_,_,.func fn h h',h2=>by cases h2 with|func _ h2 h2'=>exact .func fn (ABv.cut hx h h2) (ABv.cut hx h' h2')
 |_,_,_,.nilFunc,_=>.nilFunc
 |_,_,_,.iface t h,h2=>by cases h2 with|iface _ h2=>exact .iface t (ABe.cut hx h h2)
 |_,_,_,.nilIface,_=>.nilIface
 |_,_,_,.agg h,h2=>by cases h2 with|agg h2=>exact .agg (ABv.cut hx h h2)
 |_,_,_,.tuple h,h2=>by cases h2 with|tuple h2=>exact .tuple (ABv.cut hx h h2)
 |_,_,_,.unk,_=>.unk
 |_,_,_,.ADl,_=>.ADl
theorem ABv.cut(hx:∀ b p,φ b=some p->(∃ q,ψ b=some q)->χ b=some p):∀ {v v' v'':List IN},ABv φ v v'->ABv ψ v v''->ABv χ v v'
 |_,_,_,.nil,_=>.nil
 |_,_,_,.cons h t,h2=>by cases h2 with|cons h2 t2=>exact .cons (ABe.cut hx h h2) (ABv.cut hx t t2)
end
theorem ACX.cut(hx:∀ b p,φ b=some p->(∃ q,ψ b=some q)->χ b=some p):∀ {l:List Ent} {l' l'':List MapEntry},ACX φ l l'->ACX ψ l l''->ACX χ l l'
 |_,_,_,.nil,_=>.nil
 |_,_,_,.cons hk hv t,h2=>by cases h2 with|cons hk2 hv2 t2=>exact .cons (hk.cut hx hk2) (hv.cut hx hv2) (ACX.cut hx t t2)
theorem ACY.cut{ty:TTy}(hx:∀ b p,φ b=some p->(∃ q,ψ b=some q)->χ b=some p){p p2:Pl}{b:Blk}{o o2:Option Obj}(h:ACY ty φ p b o)(h2:ACY ty ψ p2 b o2):ACY ty χ p b o:=by
 cases h with
 |cells h=>cases h2 with
  |cells h2=>exact .cells {h with cell:=fun j hj=>let ⟨v,e,r⟩:=h.cell j hj;let ⟨v2,_,r2⟩:=h2.cell j hj;⟨v,e,r.cut hx r2⟩}
 |map h=>cases h2 with
  |map h2=>exact .map (h.cut hx h2)
 |ADI h=>exact .ADI h
 |iter hp h=>cases h2 with
  |iter _ h2=>exact .iter hp (hx _ _ h ⟨_,h2⟩)
 |cur hp h hl=>cases h2 with
  |cur _ h2 _=>exact .cur hp (hx _ _ h ⟨_,h2⟩) hl
 |dead=>exact .dead
end
structure Laws (ty:TTy)(all:List wG)(ρ:Nat->Rho)(H:Nat->Hp)(T:Nat->Nat->Prop)(B:Nat->Nat->Prop):Prop where
 lt:∀ i j,B i j->i<j
 slots:∀ i j oi oj d,i≠j->all[i]? =some oi->all[j]? =some oj->oi.dst=some d->
  (oj.dst=some d\/.tmp d∈oj.op.operands.toList\/∃ g w og,oj.guard=some (g,w)/\all[g]? =some og/\og.dst=some d)->B i j\/B j i
 kinds:∀ j oj c,all[j]? =some oj->T j c->(∃ x,kd ty oj.op=.w x)\/kd ty oj.op=.q
 fixed:∀ i j oi c,i≠j->all[i]? =some oi->j<all.length->T j c->((∃ x,kd ty oi.op=.w x)\/kd ty oi.op=.q)->B i j\/B j i
 reads:∀ i j oi x c u,i≠j->all[i]? =some oi->j<all.length->T j c->kd ty oi.op=.r x->evR (ρ i) x=some u->AB4 u=.ok c->B i j\/B j i
 tlt:∀ j c,j<all.length->T j c->c<(H j).next
 AEp:∀ j c,j<all.length->T j c->(H all.length).low<=c/\c<=(H all.length).high
 low:(H all.length).low<=(H 0).low
 high:(H 0).high<=(H all.length).high
structure Inv (ty:TTy)(N:Nat)(all:List wG)(ρ:Nat->Rho)(H:Nat->Hp)(T:Nat->Nat->Prop)(φ0:Phi)(w0:uS)(S:Nat->Prop)(φ:Phi)(C:Nat->Blk)(a:Act)(w:uS):Prop where
 dom:∀ b p,φ b=some p->p.blk<w.heap.size/\(b<(H 0).next\/∃ j,S j/\j<all.length/\(H j).next<=b/\b<(H (j+1)).next)
 inj:∀ b c p q,φ b=some p->φ c=some q->C b≠.dead->C c≠.dead->(p.inp=false\/q.inp=false)->p.blk=q.blk->b=c
 row:∀ b p,φ b=some p->ACY ty φ p (C b) w.heap[p.blk]?
 kind:∀ k,k<=all.length->∀ b p c s e,φ b=some p->b<(H k).next->(H k).bl.get b=.cells c s e->Kind ty p s e
 inp:∀ b p,φ b=some p->p.inp=true->b<256
 link:∀ k,k<=all.length->∀ b p,φ b=some p->b<(H k).next->(∀ j,j<all.length->T j b->(j<k->S j)/\(k<=j->¬ S j))->C b=(H k).bl.get b
 chg:∀ j,S j->j<all.length->∀ b,b<(H j).next->(H (j+1)).bl.get b≠(H j).bl.get b->∃ p,φ b=some p
 full:∀ j,S j->j<all.length->∀ b,(H j).next<=b->b<(H (j+1)).next->∃ p,φ b=some p
 slot:∀ k,k<=all.length->∀ t u,(∀ j o,all[j]? =some o->o.dst=some t->(j<k->S j)/\(k<=j->¬ S j))->ρ k t=some u->ABe φ u (a.tmps.getD t undef)
 size:a.tmps.size=N
 defs:a.defers=[]
 le:φ0.Le φ
 new:∀ b p,φ b=some p->φ0 b=some p\/(H 0).next<=b
 sz:w0.heap.size<=w.heap.size
 tape:w.tape=w0.tape
 os:w.os=w0.os
 output:w.output=w0.output
 frame:∀ k,k<w0.heap.size->(∀ c p,φ0 c=some p->p.inp=false->(H all.length).low<=c->c<=(H all.length).high->Live (H 0) c->p.blk≠k)->w.heap[k]? =w0.heap[k]?
 back:∀ b p,φ b=some p->C b≠.dead->p.blk<w0.heap.size->∃ c q,φ0 c=some q/\Live (H 0) c/\q.blk=p.blk/\q.inp=p.inp/\(c=b\/(H all.length).low<=c/\c<=(H all.length).high)
section
variable {P:vA}{ty:TTy}{N:Nat}{all:List wG}{ρ:Nat->Rho}{H:Nat->Hp}{V:Nat->IN}{T:Nat->Nat->Prop}{φ0:Phi}{w0:uS}
theorem Txt.mono{φ:Phi}{n:Nat}(t:Txt P ty N φ ρ H V T n){i:Nat}:∀ {k:Nat},i<=k->k<=n->(H i).next<=(H k).next:=by
 intro k h hn
 induction k with
 |zero=>have:i=0:=xQ.1 h;subst this;exact If _
 |succ k ih=>
  rcases uG k i with h2|h2
  ·have:i=k+1:=by omega
   subst this;exact If _
  ·exact uO (ih h2 (by omega)) (t.next k (by omega))
theorem Txt.ADU{φ:Phi}{n:Nat}(t:Txt P ty N φ ρ H V T n){i:Nat}{b:Nat}(hb:b<(H i).next):∀ {k:Nat},i<=k->k<=n->ABt ((H i).bl.get b) ((H k).bl.get b):=by
 intro k h hn
 induction k with
 |zero=>have:i=0:=xQ.1 h;subst this;exact .refl _
 |succ k ih=>
  rcases uG k i with h2|h2
  ·have:i=k+1:=by omega
   subst this;exact .refl _
  ·exact(ih h2 (by omega)).trans (t.shape k (by omega) b (vD hb (t.mono h2 (by omega))))
theorem Txt.same{φ:Phi}{n:Nat}(t:Txt P ty N φ ρ H V T n){i:Nat}{b:Nat}:∀ {k:Nat},i<=k->k<=n->(∀ m,i<=m->m<k->(H (m+1)).bl.get b=(H m).bl.get b)->(H k).bl.get b=(H i).bl.get b:=by
 intro k h hn hs
 induction k with
 |zero=>have:i=0:=xQ.1 h;subst this;rfl
 |succ k ih=>
  rcases uG k i with h2|h2
  ·have:i=k+1:=by omega
   subst this;rfl
  ·rw[hs k h2 (by omega)];exact ih h2 (by omega) fun m h1 h2=>hs m h1 (by omega)
theorem Tr.backward{run:Nat->Bool}{ahs:List ACA}(tr:Tr P ty all ahs all ρ H V run T){t:Nat}{u:IN}{i:Nat}:∀ {k:Nat},i<=k->k<=all.length->(∀ m o,i<=m->m<k->all[m]? =some o->o.dst≠some t)->ρ k t=some u->ρ i t=some u:=by
 intro k h hn hs hu
 induction k with
 |zero=>have:i=0:=xQ.1 h;subst this;exact hu
 |succ k ih=>
  rcases uG k i with h2|h2
  ·have:i=k+1:=by omega
   subst this;exact hu
  ·have hk:k<all.length:=by omega
   have ho:all[k]? =some all[k]:=List.getElem?_eq_getElem hk;have:=(tr.sf k all[k] ho).slot t u hu;rw[if_neg (hs k all[k] h2 (Nat.lt_succ_self _) ho)]at this;exact ih h2 (by omega) (fun m o h1 h2=>hs m o h1 (by omega)) this
def Pt(n:Nat)(T:Nat->Nat->Prop)(S:Nat->Prop)(h:Hp)(i:Nat):Nat->Prop:=fun b=>b<h.next/\¬ ∀ j,j<n->T j b->(j<i->S j)/\(i<=j->¬ S j)
def upto(φ:Phi)(n:Nat):Phi:=fun b=>if b<n then φ b else none
theorem Cn{φ:Phi}{n b:Nat}{p:Pl}(h:upto φ n b=some p):b<n/\φ b=some p:=by
 unfold upto at h;split at h
 ·exact⟨‹_›,h⟩
 ·cases h
theorem Inv.AGp{φ:Phi}{C:Nat->Blk}{a:Act}{w:uS}{S:Nat->Prop}(I:Inv ty N all ρ H T φ0 w0 S φ C a w)(txt:Txt P ty N φ0 ρ H V T all.length){i:Nat}(hi:i<=all.length):
  ABh ty (upto φ (H i).next) (Pt all.length T S (H i) i) (H i) w/\∃ (ψ:Phi) (b:Act),AR N ψ (ρ i) b/\∀ b p,φ b=some p->(∃ q,ψ b=some q)->upto φ (H i).next b=some p:=by
 obtain⟨ψ,wt,at',HW,HA,hle,hall⟩:=txt.AEo i hi;have hx:∀ b p,φ b=some p->(∃ q,ψ b=some q)->upto φ (H i).next b=some p:=by
  rintro b p hp ⟨q,hq⟩;unfold upto;rw[if_pos (HW.dom b q hq).1];exact hp
 have hin:∀ b p,φ b=some p->b<(H i).next->∃ q,ψ b=some q:=by
  intro b p hp hb;rcases I.new b p hp with h|h
  ·exact⟨p,hle b p h⟩
  ·exact hall b h hb
 have lk:∀ b p,φ b=some p->b<(H i).next->¬ Pt all.length T S (H i) i b->C b=(H i).bl.get b:=by
  intro b p hp hb hE;refine I.link i hi b p hp hb fun j hj hT=>?_
  by_cases hh:(j<i->S j)/\(i<=j->¬ S j)
  ·exact hh
  ·exact absurd ⟨hb,fun hall=>hh (hall j hj hT)⟩ hE
 refine⟨{dom:=fun b p e=>?_,inj:=fun b c p q eb ec hEb hEc hb hc hio hpq=>?_,row:=fun b p e hE=>?_,fresh:=txt.fresh i hi,kind:=fun b p c s e' e he=>?_,inp:=fun b p e=>I.inp b p (Cn e).2},ψ,at',HA,hx⟩
 ·obtain⟨h1,h2⟩:=Cn e
  exact⟨h1,(I.dom b p h2).1⟩
 ·obtain⟨h1,h2⟩:=Cn eb
  obtain⟨h3,h4⟩:=Cn ec;exact I.inj b c p q h2 h4 (by rw[lk b p h2 h1 hEb];exact hb) (by rw[lk c q h4 h3 hEc];exact hc) hio hpq
 ·obtain⟨h1,h2⟩:=Cn e
  have r1:=I.row b p h2;rw[lk b p h2 h1 hE]at r1;obtain⟨q,hq⟩:=hin b p h2 h1;exact r1.cut hx (HW.row b q hq fun h=>h)
 ·obtain⟨h1,h2⟩:=Cn e
  exact I.kind i hi b p c s e' h2 h1 he
end
end
noncomputable section
open Go
section
variable {P:vA}{ty:TTy}{N:Nat}{all:List wG}{ρ:Nat->Rho}{H:Nat->Hp}{V:Nat->IN}{T:Nat->Nat->Prop}{φ0:Phi}{w0:uS}{B:Nat->Nat->Prop}
def join(φ ψ:Phi)(lo hi:Nat):Phi:=fun b=>if lo<=b/\b<hi then ψ b else φ b
open Classical in
def VQ(C:Nat->Blk)(h:Hp)(lo:Nat)(W:Prop):Nat->Blk:=fun b=>if b<h.next/\(lo<=b\/W)then h.bl.get b else C b
theorem Inv.after(L:Laws ty all ρ H T B){run:Nat->Bool}{ahs:List ACA}(tr:Tr P ty all ahs all ρ H V run T)(txt:Txt P ty N φ0 ρ H V T all.length){S:Nat->Prop}{φ:Phi}{C:Nat->Blk}{a:Act}{w:uS}(I:Inv ty N all ρ H T φ0 w0 S φ C a w)
  {i:Nat}{o:wG}(ho:all[i]? =some o)(hS:¬ S i)(hpre:∀ j,B j i->S j)(hcl:∀ j k,S j->B k j->S k)(hN:∀ d,o.dst=some d->d<N)
  {ψ:Phi}{v':IN}{w':uS}(hv:ABe ψ (V i) v')(HW:ABh ty ψ (Pt all.length T S (H i) i) (H (i+1)) w')(eff:Eff (T i) (upto φ (H i).next) (H i) w ψ (H (i+1)) w'):
  Inv ty N all ρ H T φ0 w0 (fun j=>S j\/j=i) (join φ ψ (H i).next (H (i+1)).next) (VQ C (H (i+1)) (H i).next (∃ c,T i c)) (a.put o.dst v') w':=by
 have hi:i<all.length:=by
  rcases uG i all.length with h|h
  ·exact h
  ·rw[List.getElem?_eq_none h]at ho;cases ho
 have hnS:∀ j,B i j->¬ S j:=fun j hb hj=>hS (hcl j i hj hb)
 have fx:∀ j,j≠i->(B i j\/B j i)->(j<i->S j)/\(i<=j->¬ S j):=by
  intro j hj hb;rcases hb with hb|hb
  ·have:=L.lt i j hb
   exact⟨fun h=>by omega,fun _=>hnS j hb⟩
  ·have:=L.lt j i hb
   exact⟨fun _=>hpre j hb,fun h=>by omega⟩
 have hnext:=txt.next i hi;have hn1:i+1<=all.length:=hi;have hE:(∃ c,T i c)->∀ b,¬ Pt all.length T S (H i) i b:=by
  rintro⟨c,hc⟩ b ⟨hb,hne⟩;refine hne fun j hj hT=>?_
  by_cases hji:j=i
  ·subst hji;exact⟨fun h=>absurd h (Nat.lt_irrefl _),fun _=>hS⟩
  ·exact fx j hji (L.fixed i j o b (fun h=>hji h.symm) ho hj hT (L.kinds i o c ho hc))
 have hnone:∀ b,(H i).next<=b->b<(H (i+1)).next->φ b=none:=by
  intro b h1 h2;cases hb:φ b with
  |none=>rfl
  |some p=>
   exfalso
   rcases (I.dom b p hb).2 with h|⟨j,hj,hjn,h3,h4⟩
   ·have:=txt.mono (uD i) (vP hi)
    omega
   ·rcases Nat.lt_trichotomy j i with h|h|h
    ·have:=txt.mono (i:=j+1) (k:=i) h (vP hi);omega
    ·subst h;exact hS hj
    ·have:=txt.mono (i:=i+1) (k:=j) h (vP hjn);omega
 have AFz:∀ {b},(H i).next<=b->b<(H (i+1)).next->join φ ψ (H i).next (H (i+1)).next b=ψ b:=fun h1 h2=>if_pos ⟨h1,h2⟩
 have ADg:∀ {b},¬ ((H i).next<=b/\b<(H (i+1)).next)->join φ ψ (H i).next (H (i+1)).next b=φ b:=fun h=>if_neg h
 have jle:φ.Le (join φ ψ (H i).next (H (i+1)).next):=by
  intro b p hb;rw[ADg fun h=>by rw[hnone b h.1 h.2]at hb;cases hb];exact hb
 have jψ:ψ.Le (join φ ψ (H i).next (H (i+1)).next):=by
  intro b p hb;have h2:=(HW.dom b p hb).1;rcases uG b (H i).next with h|h
  ·rw[ADg (by omega)]
   rcases eff.new b p hb with h3|h3
   ·exact(Cn h3).2
   ·omega
  ·rw[AFz h h2];exact hb
 have ACm:∀ {b p},join φ ψ (H i).next (H (i+1)).next b=some p->((H i).next<=b/\b<(H (i+1)).next/\ψ b=some p)\/((b<(H i).next\/(H (i+1)).next<=b)/\φ b=some p):=by
  intro b p hb;by_cases h:(H i).next<=b/\b<(H (i+1)).next
  ·rw[AFz h.1 h.2]at hb;exact .inl ⟨h.1,h.2,hb⟩
  ·rw[ADg h]at hb;exact .inr ⟨by omega,hb⟩
 have upψ:∀ {b p},φ b=some p->b<(H i).next->ψ b=some p:=by
  intro b p hb h;refine eff.le b p ?_;unfold upto;rw[if_pos h];exact hb
 have ADK:∀ {b},b<(H (i+1)).next->((H i).next<=b\/∃ c,T i c)->VQ C (H (i+1)) (H i).next (∃ c,T i c) b=(H (i+1)).bl.get b:=fun h1 h2=>if_pos ⟨h1,h2⟩
 have ADV:∀ {b},¬ (b<(H (i+1)).next/\((H i).next<=b\/∃ c,T i c))->VQ C (H (i+1)) (H i).next (∃ c,T i c) b=C b:=fun h=>if_neg h
 have lk:(∃ c,T i c)->∀ b p,φ b=some p->b<(H i).next->C b=(H i).bl.get b:=by
  intro hw b p hb h;refine I.link i (vP hi) b p hb h fun j hj hT=>?_
  by_cases hh:(j<i->S j)/\(i<=j->¬ S j)
  ·exact hh
  ·exact absurd ⟨h,fun hall=>hh (hall j hj hT)⟩ (hE hw b)
 have live:∀ {b},b<(H i).next->(H (i+1)).bl.get b≠.dead->(H i).bl.get b≠.dead:=fun h hl=>(eff.shape _ h).live hl
 have AF0:∀ {b c p q},(H (i+1)).next<=c->φ c=some q->C c≠.dead->b<(H (i+1)).next->join φ ψ (H i).next (H (i+1)).next b=some p->VQ C (H (i+1)) (H i).next (∃ c,T i c) b≠.dead->(p.inp=false\/q.inp=false)->p.blk≠q.blk:=by
  intro b c p q hc hq hlc hb hp hlb hio hpq;rcases ACm hp with ⟨h1,h2,h3⟩|⟨h1,h3⟩
  ·rw[ADK h2 (.inl h1)]at hlb
   obtain⟨j,q',e1,e2,e3,ei,e4⟩:=eff.back b p h3 hlb (hpq ▸ (I.dom c q hq).1);obtain⟨e5,e6⟩:=Cn e1;rcases e4 with rfl|e4
   ·omega
   ·have:=I.inj j c q' q e6 hq (by rw[lk ⟨j,e4⟩ j q' e6 e5];exact e2) hlc (by rw[ei];exact hio) (e3.trans hpq)
    omega
  ·have hb':b<(H i).next:=by omega
   have hl:C b≠.dead:=by
    by_cases hw:∃ c,T i c
    ·rw[ADK hb (.inr hw)]at hlb
     rw[lk hw b p h3 hb'];exact live hb' hlb
    ·rw[ADV (by rintro⟨_,h|h⟩;omega;exact hw h)]at hlb;exact hlb
   have:=I.inj b c p q h3 hq hl hlc hio hpq;omega
 refine {dom:=?_,inj:=?_,row:=?_,kind:=?_,inp:=(fun b p hp hi=>by rcases ACm hp with ⟨_,_,h3⟩|⟨_,h3⟩;exact HW.inp b p h3 hi;exact I.inp b p h3 hi),link:=?_,chg:=?_,full:=?_,slot:=?_,size:=(by rw[Fi];exact I.size),defs:=(by rw[Ge];exact I.defs),le:=I.le.trans jle,new:=?_,sz:=uO I.sz eff.size,tape:=eff.tape.trans I.tape,os:=eff.os.trans I.os,output:=eff.output.trans I.output,frame:=?_,back:=?_}
 ·
  intro b p hp;rcases ACm hp with ⟨h1,h2,h3⟩|⟨h1,h3⟩
  ·exact⟨(HW.dom b p h3).2,.inr ⟨i,.inr rfl,hi,h1,h2⟩⟩
  ·obtain⟨q1,q2⟩:=I.dom b p h3
   exact⟨vD q1 eff.size,q2.imp id fun⟨j,hj,r⟩=>⟨j,.inl hj,r⟩⟩
 ·
  intro b c p q hp hq hlb hlc hio hpq;rcases uG b (H (i+1)).next with hb|hb
  ·rcases uG c (H (i+1)).next with hc|hc
   ·have toψ:∀ {b p},b<(H (i+1)).next->join φ ψ (H i).next (H (i+1)).next b=some p->ψ b=some p:=by
     intro b p hb hp;rcases ACm hp with ⟨_,_,h3⟩|⟨h1,h3⟩
     ·exact h3
     ·exact upψ h3 (by omega)
    have pb:=toψ hb hp;have pc:=toψ hc hq;by_cases hw:∃ c,T i c
    ·rw[ADK hb (.inr hw)]at hlb
     rw[ADK hc (.inr hw)]at hlc;exact HW.inj b c p q pb pc (hE hw b) (hE hw c) hlb hlc hio hpq
    ·rcases uG b (H i).next with hb2|hb2
     ·rcases uG c (H i).next with hc2|hc2
      ·rw[ADV (by rintro⟨_,h|h⟩;omega;exact hw h)]at hlb
       rw[ADV (by rintro⟨_,h|h⟩;omega;exact hw h)]at hlc;rw[ADg (by omega)]at hp hq;exact I.inj b c p q hp hq hlb hlc hio hpq
      ·exfalso
       rw[ADg (by omega)]at hp;rw[ADK hc (.inl hc2)]at hlc;obtain⟨j,q',e1,e2,e3,_,e4⟩:=eff.back c q pc hlc (hpq ▸ (I.dom b p hp).1);rcases e4 with rfl|e4
       ·have:=(Cn e1).1;omega
       ·exact hw ⟨j,e4⟩
     ·rw[ADK hb (.inl hb2)]at hlb
      rcases uG c (H i).next with hc2|hc2
      ·exfalso
       rw[ADg (by omega)]at hq;obtain⟨j,q',e1,e2,e3,_,e4⟩:=eff.back b p pb hlb (hpq ▸ (I.dom c q hq).1);rcases e4 with rfl|e4
       ·have:=(Cn e1).1;omega
       ·exact hw ⟨j,e4⟩
      ·rw[ADK hc (.inl hc2)]at hlc
       exact HW.inj b c p q pb pc (fun h=>by have:=h.1;omega) (fun h=>by have:=h.1;omega) hlb hlc hio hpq
   ·rw[ADg (by omega)]at hq
    rw[ADV (by omega)]at hlc;exact absurd hpq (AF0 hc hq hlc hb hp hlb hio)
  ·rcases uG c (H (i+1)).next with hc|hc
   ·rw[ADg (by omega)]at hp
    rw[ADV (by omega)]at hlb;exact absurd hpq.symm (AF0 hb hp hlb hc hq hlc hio.symm)
   ·rw[ADg (by omega)]at hp hq
    rw[ADV (by omega)]at hlb hlc;exact I.inj b c p q hp hq hlb hlc hio hpq
 ·
  intro b p hp;by_cases hb:b<(H (i+1)).next/\((H i).next<=b\/∃ c,T i c)
  ·rw[ADK hb.1 hb.2]
   have hψ:ψ b=some p:=by
    rcases ACm hp with ⟨_,_,h3⟩|⟨h1,h3⟩
    ·exact h3
    ·exact upψ h3 (by omega)
   refine(HW.row b p hψ ?_).mono jψ;rcases hb.2 with h|h
   ·intro hE;have:=hE.1;omega
   ·exact hE h b
  ·rw[ADV hb]
   have hφ:φ b=some p:=by
    rcases ACm hp with ⟨h1,h2,_⟩|⟨_,h3⟩
    ·exact absurd ⟨h2,.inl h1⟩ hb
    ·exact h3
   by_cases hd:C b=.dead
   ·rw[hd];exact .dead
   ·have hr:=(I.row b p hφ).mono jle
    rw[eff.frame p.blk (I.dom b p hφ).1 fun c q e1 en e2 e3 e4=>?_]
    ·exact hr
    ·obtain⟨e5,e6⟩:=Cn e1
     have:=I.inj c b q p e6 hφ (by rw[lk ⟨c,e2⟩ c q e6 e5];exact e3) hd (.inl en) e4;subst this;exact hb ⟨by omega,.inr ⟨c,e2⟩⟩
 ·
  intro k hk b p c s e hp hb he;rcases ACm hp with ⟨h1,h2,h3⟩|⟨_,h3⟩
  ·have hik:i+1<=k:=by
    rcases uG i k with h|h
    ·exact h
    ·have:=txt.mono (i:=k) (k:=i) h (vP hi);omega
   have hs:=txt.ADU (i:=i+1) (k:=k) h2 hik hk;rw[he]at hs;obtain⟨c',hc'⟩:=hs.cells;exact HW.kind b p c' s e h3 hc'
  ·exact I.kind k hk b p c s e h3 hb he
 ·
  intro k hk b p hp hb hyp;rcases uG i k with hik|hik
  ·
   rcases ACm hp with ⟨h1,h2,h3⟩|⟨h1,h3⟩
   ·rw[ADK h2 (.inl h1)]
    refine(txt.same (i:=i+1) hik hk fun m hm1 hm2=>?_).symm;by_cases hm:S m
    ·by_cases hc:(H (m+1)).bl.get b=(H m).bl.get b
     ·exact hc
     ·have:=txt.mono (i:=i+1) (k:=m) hm1 (by omega)
      obtain⟨q,hq⟩:=I.chg m hm (by omega) b (by omega) hc;rw[hnone b h1 h2]at hq;cases hq
    ·have:=txt.mono (i:=i+1) (k:=m) hm1 (by omega)
     refine txt.kept m (by omega) b (by omega) fun hT=>?_
     rcases (hyp m (by omega) hT).1 hm2 with h|h
     ·exact hm h
     ·omega
   ·rcases h1 with h1|h1
    ·by_cases hw:∃ c,T i c
     ·rw[ADK (by omega) (.inr hw)]
      refine(txt.same (i:=i+1) hik hk fun m hm1 hm2=>?_).symm;have:=txt.mono (i:=i+1) (k:=m) hm1 (by omega);refine txt.kept m (by omega) b (by omega) fun hT=>?_
      obtain⟨c,hc⟩:=hw;have hfx:=fx m (by omega) (L.fixed i m o b (by omega) ho (by omega) hT (L.kinds i o c ho hc));rcases (hyp m (by omega) hT).1 hm2 with h|h
      ·exact hfx.2 (by omega) h
      ·omega
     ·rw[ADV (by rintro⟨_,h|h⟩;omega;exact hw h)]
      refine I.link k hk b p h3 hb fun j hj hT=>⟨fun h=>?_,fun h=>?_⟩
      ·rcases (hyp j hj hT).1 h with h|h
       ·exact h
       ·subst h;exact absurd ⟨b,hT⟩ hw
      ·exact fun hSj=>(hyp j hj hT).2 h (.inl hSj)
    ·rw[ADV (by omega)]
     refine I.link k hk b p h3 hb fun j hj hT=>⟨fun h=>?_,fun h=>?_⟩
     ·rcases (hyp j hj hT).1 h with h|h
      ·exact h
      ·subst h;have:=L.tlt j b hj hT;omega
     ·exact fun hSj=>(hyp j hj hT).2 h (.inl hSj)
  ·
   have hkm:=txt.mono (i:=k) (k:=i) hik (vP hi);have h3:φ b=some p:=by
    rcases ACm hp with ⟨h1,_,_⟩|⟨_,h3⟩
    ·omega
    ·exact h3
   have l1:C b=(H k).bl.get b:=I.link k hk b p h3 hb fun j hj hT=>⟨fun h=>by
     rcases (hyp j hj hT).1 h with h2|h2
     ·exact h2
     ·omega,fun h hSj=>(hyp j hj hT).2 h (.inl hSj)⟩
   by_cases hw:∃ c,T i c
   ·rw[ADK (by omega) (.inr hw)]
    have hnT:¬ T i b:=fun hT=>(hyp i hi hT).2 hik (.inr rfl)
    rw[eff.kept b (by omega) hnT,<- lk hw b p h3 (by omega)];exact l1
   ·rw[ADV (by rintro⟨_,h|h⟩;omega;exact hw h)];exact l1
 ·
  intro j hj hjn b hb hc;rcases hj with hj|rfl
  ·obtain⟨p,hp⟩:=I.chg j hj hjn b hb hc
   exact⟨p,jle b p hp⟩
  ·cases hu:upto φ (H j).next b with
   |none=>exact absurd (eff.only b hb hu) hc
   |some p=>exact⟨p,jle b p (Cn hu).2⟩
 ·
  intro j hj hjn b h1 h2;rcases hj with hj|rfl
  ·obtain⟨p,hp⟩:=I.full j hj hjn b h1 h2
   exact⟨p,jle b p hp⟩
  ·obtain⟨p,hp⟩:=eff.all b h1 h2
   exact⟨p,jψ b p hp⟩
 ·
  intro k hk t u hyp hu;rw[Hm];by_cases hd:o.dst=some t
  ·rw[if_pos ⟨hd,by rw[I.size];exact hN t hd⟩]
   have hik:i<k:=by
    rcases uG i k with h|h
    ·exact h
    ·exact absurd (.inr rfl) ((hyp i o ho hd).2 h)
   have hu2:ρ (i+1) t=some u:=by
    refine tr.backward (i:=i+1) hik hk (fun m om h1 h2 hom hdm=>?_) hu;have hfx:=fx m (by omega) (L.slots i m o om t (by omega) ho hom hd (.inl hdm));rcases (hyp m om hom hdm).1 h2 with h|h
    ·exact hfx.2 (by omega) h
    ·omega
   have:=(tr.sf i o ho).slot t u hu2;rw[if_pos hd]at this;rw[this];exact hv.mono jψ
  ·rw[if_neg fun h=>hd h.1]
   refine(I.slot k hk t u (fun j oj hoj hdj=>?_) hu).mono jle;have hji:j≠i:=fun h=>by subst h;rw[ho]at hoj;cases hoj;exact hd hdj
   refine⟨fun h=>?_,fun h hSj=>(hyp j oj hoj hdj).2 h (.inl hSj)⟩;rcases (hyp j oj hoj hdj).1 h with h2|h2
   ·exact h2
   ·exact absurd h2 hji
 ·
  intro b p hp;rcases ACm hp with ⟨h1,_,_⟩|⟨_,h3⟩
  ·have:=txt.mono (uD i) (vP hi)
   exact .inr (by omega)
  ·exact I.new b p h3
 ·
  intro k hk hc;rw[eff.frame k (vD hk I.sz) fun c q e1 en e2 e3 e4=>?_]
  ·exact I.frame k hk hc
  ·obtain⟨e5,e6⟩:=Cn e1
   obtain⟨c0,q0,f1,f2,f3,fi,f4⟩:=I.back c q e6 (by rw[lk ⟨c,e2⟩ c q e6 e5];exact e3) (by rw[e4];exact hk);have hlo:(H all.length).low<=c0/\c0<=(H all.length).high:=by
    rcases f4 with rfl|f4
    ·exact L.AEp i _ hi e2
    ·exact f4
   exact hc c0 q0 f1 (fi.trans en) hlo.1 hlo.2 f2 (f3.trans e4)
 ·
  intro b p hp hl hlt;rcases ACm hp with ⟨h1,h2,h3⟩|⟨h1,h3⟩
  ·rw[ADK h2 (.inl h1)]at hl
   obtain⟨j,q,e1,e2,e3,ei,e4⟩:=eff.back b p h3 hl (vD hlt I.sz);obtain⟨e5,e6⟩:=Cn e1;rcases e4 with rfl|e4
   ·omega
   ·obtain⟨c0,q0,f1,f2,f3,fi,f4⟩:=I.back j q e6 (by rw[lk ⟨j,e4⟩ j q e6 e5];exact e2) (by rw[e3];exact hlt)
    refine⟨c0,q0,f1,f2,f3.trans e3,fi.trans ei,.inr ?_⟩;rcases f4 with rfl|f4
    ·exact L.AEp i _ hi e4
    ·exact f4
  ·refine I.back b p h3 ?_ hlt
   by_cases hb:b<(H (i+1)).next/\((H i).next<=b\/∃ c,T i c)
   ·have hb':b<(H i).next:=by omega
    rw[ADK hb.1 hb.2]at hl;have hw:∃ c,T i c:=hb.2.resolve_left (by omega);rw[lk hw b p h3 hb'];exact live hb' hl
   ·rw[ADV hb]at hl;exact hl
end
end
end Go.Proofs.YtbjadbhkogcfeaaGreat
