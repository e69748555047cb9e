/- Maps whose keys are truth values, integers or strings; ranges over strings; what an interface value holds. -/
import Derived.Test.YtmkgenngokjbiaaGreatDoorCd01
import Derived.Lib.MakeNoZero
import Derived.Lib.UnsafeStr
import Derived.Lib.Bytealg
set_option linter.all false
set_option maxRecDepth 20000
set_option maxHeartbeats 6400000
set_option linter.all false
namespace Go.Ev
open Go.RowKit
def plainKey:TypeDesc→Bool
 |.int _=>true
 |.string=>true
 |.bool=>true
 |_=>false
def eSame(d:TypeDesc)(a b:AV):Option Bool:=
 match d,a,b with
 |.int _,.int k x,.int k' y=>bif decide (k=k')then some (x==y)else none
 |.string,.str x,.str y=>some (x==y)
 |.bool,.bool x,.bool y=>some (x==y)
 |_,_,_=>none
theorem qJ3{φ:Ren}{d:TypeDesc}{a b:AV}{r:Bool}{u v:Value}(e:eSame d a b=some r)(ha:VRel φ a u)(hb:VRel φ b v):Instr.sameNow d u v=some r:=by
 unfold eSame at e;split at e
 ·cases ha;cases hb;rename_i k x k' y;cases hk:decide (k=k')with
  |false=>rw[hk]at e;cases e
  |true=>rw[hk]at e;simpa[Instr.sameNow,of_decide_eq_true hk]using e
 ·cases ha;cases hb;simpa[Instr.sameNow]using e
 ·cases ha;cases hb;simpa[Instr.sameNow]using e
 grind
theorem ba_symm:∀{x y:ByteArray},(x==y)=true→(y==x)=true
 |⟨a⟩,⟨b⟩,h=>by
  have h':(a==b)=true:=h
  simp_all
theorem eSame_bits{φ:Ren}{d:TypeDesc}{a b:AV}{u v:Value}(e:eSame d a b=some true)(ha:VRel φ a u)(hb:VRel φ b v)(n:Nat):Instr.sameBits n v u=true:=by
 unfold eSame at e;split at e
 ·cases ha;cases hb;rename_i k x k' y;cases hk:decide (k=k')with
  |false=>rw[hk]at e;cases e
  |true=>rw[hk]at e;simp at e;have:=of_decide_eq_true hk;subst this;subst e;simp[Instr.sameBits]
 ·cases ha;cases hb;simp at e;simp[Instr.sameBits,ba_symm e]
 ·cases ha;cases hb;simp at e;subst e;simp[Instr.sameBits]
 grind
def wRG(d:TypeDesc)(k:AV):List (AV×AV×Nat)→Nat→Option (Option (Nat×AV))
 |[],_=>some none
 |e::es,i=>match eSame d k e.1 with
  |some true=>some (some (i,e.2.1))
  |some false=>wRG d k es (i+1)
  |none=>none
inductive FRelM(φ:Ren):Option (Nat×AV)→Option (Nat×Value)→Prop
 |none:FRelM φ none none
 |some {i:Nat} {a:AV} {v:Value} (h:VRel φ a v):FRelM φ (some (i,a)) (some (i,v))
theorem qJ7{φ:Ren}{d:TypeDesc}{k:AV}{u:Value}(hk:VRel φ k u):∀{as:List (AV×AV×Nat)}{es:List MapEntry}{i:Nat}{r:Option (Nat×AV)},EsRel φ as es→wRG d k as i=some r→
  ∃r',Instr.findNow d u es i=some r'∧FRelM φ r r'
 |_,_,i,r,.nil,e=>by cases e;exact⟨_,rfl,.none⟩
 |_,_,i,r,.cons (k:=k') (v:=v') h1 h2 h3 t,e=>by
  unfold wRG at e;dsimp only at e;unfold Instr.findNow;split at e
  ·rename_i hs;rw[qJ3 hs hk h1];cases e;exact⟨_,rfl,.some h2⟩
  ·rename_i hs;rw[qJ3 hs hk h1];exact qJ7 hk t e
  grind
theorem wX0{φ:Ren}{d:TypeDesc}{k:AV}{u:Value}(hk:VRel φ k u):∀{as:List (AV×AV×Nat)}{es:List MapEntry}{i j:Nat}{a:AV},EsRel φ as es→wRG d k as i=some (some (j,a))→
  i≤j∧∃e,es[j-i]? = some e∧∀n,Instr.sameBits n e.key u=true
 |_,_,i,j,a,.nil,e=>by cases e
 |_,_,i,j,a,.cons (k:=k') (v:=v') (e:=e0) h1 h2 h3 t,e=>by
  unfold wRG at e;dsimp only at e;split at e
  ·rename_i hs;cases e;exact⟨pC _,e0,by simp,fun n=>eSame_bits hs hk h1 n⟩
  ·obtain⟨p,e1,q1,q2⟩:=wX0 hk t e;refine⟨by omega,e1,?_,q2⟩;rw[show j-i=(j-(i+1))+1 by omega];simpa using q1
  grind
section
variable{P:Program}{ro n0 c:Nat}{φ:Ren}{σ:Hp}{w:World}
theorem run_checkKey{C:Cx}(hC:CxOk P C){t:TypeId}{d:TypeDesc}(h:C.und t=some d)(hp:plainKey d=true)(b:Bool)(n:Nat)(v:Value):(Instr.checkKey b (n+1) t v).run P w=.ok () w:=by unfold Instr.checkKey;have:=wP hC h w;cases d<;>first|(simp[plainKey]at hp;done)|simp_all
theorem run_findKey{C:Cx}(hC:CxOk P C){t:TypeId}{d:TypeDesc}(h:C.und t=some d){k:AV}{u:Value}(hk:VRel φ k u){as:List (AV×AV×Nat)}{es:List MapEntry}{r:Option (Nat×AV)}(hm:EsRel φ as es)(e:wRG d k as 0=some r):∃r',(Instr.findKey t u es).run P w=.ok r' w∧FRelM φ r r':=by obtain⟨r',h1,h2⟩:=qJ7 hk hm e;refine⟨r',?_,h2⟩;unfold Instr.findKey;simp[wP hC h w,h1]
def wWI(σ:Hp)(c:Nat):AV×Hp×Nat:=(.mp c,σ.set c (some (.mapb [] 0)),c+1)
theorem qJ5(h:SRel ro n0 φ σ w){t:TypeId}{v:AV}{σ':Hp}{c':Nat}(e:wWI σ c=(v,σ',c'))(hf:vZ c c' φ) :
  wA5 P ro n0 c φ w (Instr.makeMap t none) v σ' c':=by
 unfold wWI at e;cases e;have hc:=hf c (pC _) (by omega);refine⟨.map (some w.heap.size),w.alloc (.map #[] 0),φ.ext c (w.heap.size,0,0),?_,.mp (Ren.ext_self _ _ _),h.alloc hc (.mapb [] 0) (.map #[] 0) 0 ⟨#[],heap_alloc_new _ _,.nil⟩,Ext.alloc _,(Below.refl _ _).alloc h.s _⟩;rfl
def wX2(σ:Hp):AV→Option (List (AV×AV×Nat))
 |.nilm=>some []
 |.mp M=>match σ.get M with
  |some (.mapb es _)=>some es
  |_=>none
 |_=>none
def qEC(C:Cx)(σ:Hp)(t:TypeId)(x k:AV)(ok:Bool):Option AV:=
 match C.und t with
 | some (.map kt el)=>match C.und kt with
  | some d=>bif plainKey d then
    match wX2 σ x with
    | some es=>match wRG d k es 0 with
     |some (some (_,v))=>some (bif ok then .tup [v,.bool true]else v)
     |some none=>match C.zero el with
      |some z=>some (bif ok then .tup [z,.bool false]else z)
      |none=>none
     |none=>none
    |none=>none
   else none
  |none=>none
 |_=>none
def HasEs(w:World)(u:Value)(es:Array MapEntry):Prop:=(u=.map none∧es=#[])∨∃B cl,u=.map (some B)∧w.heap[B]? = some (.map es cl)
theorem qJ8(h:SRel ro n0 φ σ w){x:AV}{as:List (AV×AV×Nat)}{u:Value}(e:wX2 σ x=some as)(hx:VRel φ x u):∃es:Array MapEntry,EsRel φ as es.toList∧HasEs w u es:=by
 unfold wX2 at e;split at e
 ·cases e;cases hx;exact⟨#[],.nil,.inl ⟨rfl,rfl⟩⟩
 ·split at e
  ·rename_i es' cl hg;cases e;cases hx with
   |mp hφ=>obtain⟨y,hy,es,h1,h2⟩:=h.h _ _ hg;rw[hφ]at hy;cases hy;exact⟨es,h2,.inr ⟨_,_,rfl,h1⟩⟩
  ·cases e
 grind
theorem wUF{t kt el:TypeId}{u i:Value}{ok:Bool}{es:Array MapEntry}{r:Option (Nat×Value)}(ht:(underlying t).run P w=.ok (.map kt el) w)(hu:HasEs w u es)(hck:(Instr.checkKey es.isEmpty 10000 kt i).run P w=.ok () w)(hf:(Instr.findKey kt i es.toList).run P w=.ok r w) :
  (Instr.lookup t u i ok).run P w=(match r with
   |some (_,v)=>.ok (if ok=true then .tuple #[v,.bool true]else v) w
   |none=>((zeroValue el).run P w).andThen fun z w'=>.ok (if ok=true then .tuple #[z,.bool false]else z) w'):=by
 rcases hu with⟨rfl,rfl⟩|⟨B,cl,rfl,hb⟩
 ·cases r<;>simp[Instr.lookup,ht,hck,hf,Result.andThen]<;>simp_all [Result.andThen]
 ·cases r<;>simp[Instr.lookup,ht,hck,hf,getObj,Sem.run,hb,Result.andThen]
theorem eLookup_ok{C:Cx}(hC:CxOk P C)(h:SRel ro n0 φ σ w){t:TypeId}{x k v:AV}{ok:Bool}{u i:Value}(e:qEC C σ t x k ok=some v)(hx:VRel φ x u)(hi:VRel φ k i) :
  ∃r,(Instr.lookup t u i ok).run P w=.ok r w∧VRel φ v r:=by
 unfold qEC at e;split at e
 case h_2=>cases e
 case h_1 kt el ht=>
  split at e
  case h_2=>cases e
  case h_1 d hd=>
   cases hp:plainKey d with
   |false=>simp_all
   | true=>
    rw[hp]at e;simp only[cond_true]at e;split at e
    case h_2=>cases e
    case h_1 as has=>
     obtain⟨es,hm,hu⟩:=qJ8 h has hx;have hck:=run_checkKey (P:=P) (w:=w) hC hd hp es.isEmpty 9999 i;split at e
     ·rename_i j a hf;cases e;obtain⟨r',q1,q2⟩:=run_findKey (P:=P) (w:=w) hC hd hi hm hf;cases q2 with
      |some q2=>
       refine⟨_,wUF (wP hC ht w) hu hck q1,?_⟩;cases ok
       ·exact q2
       ·exact .tup (.cons q2 (.cons (.bool _) .nil))
     ·rename_i hf;obtain⟨r',q1,q2⟩:=run_findKey (P:=P) (w:=w) hC hd hi hm hf;cases q2 with
      | none=>
       split at e
       case h_2=>cases e
       case h_1 z hz=>
        cases e;obtain⟨zz,z1,z2,_⟩:=xY hC hz φ w;refine⟨if ok=true then .tuple #[zz,.bool false]else zz,?_,?_⟩
        ·rw[wUF (wP hC ht w) hu hck q1];simp[z1,Result.andThen]
        ·cases ok
         ·exact z2
         ·exact .tup (.cons z2 (.cons (.bool _) .nil))
     grind
def modX:List (AV×AV×Nat)→Nat→AV→AV→List (AV×AV×Nat)
 |[],_,_,_=>[]
 |e::es,0,k,v=>(k,v,e.2.2)::es
 |e::es,j+1,k,v=>e::modX es j k v
theorem EsRel.modify{k v:AV}{u x:Value}(hk:VRel φ k u)(hv:VRel φ v x):∀{as:List (AV×AV×Nat)}{es:List MapEntry}(j:Nat),EsRel φ as es→EsRel φ (modX as j k v) (es.modify j fun e=>{ e with key:=u,val:=x })
 |_,_,j,.nil=>by simp[modX];exact .nil
 |_,_,0,.cons h1 h2 h3 t=>by simp[modX];exact .cons hk hv h3 t
 |_,_,j+1,.cons h1 h2 h3 t=>by simp[modX];exact .cons h1 h2 h3 (EsRel.modify hk hv j t)
theorem EsRel.push{k v:AV}{u x:Value}{n:Nat}(hk:VRel φ k u)(hv:VRel φ v x):∀{as:List (AV×AV×Nat)}{es:List MapEntry},EsRel φ as es→EsRel φ (as++[(k,v,n)]) (es++[{ key:=u,val:=x,born:=n }])
 |_,_,.nil=>.cons hk hv rfl .nil
 |_,_,.cons h1 h2 h3 t=>.cons h1 h2 h3 (EsRel.push hk hv t)
theorem qD6(h:SRel ro n0 φ σ w){A B s n:Nat}{b b':ABlk}{o:Obj}(hA:φ A=some (B,s,n))(hro:ro≤A)(hb:σ.get A=some b)(hr:wED φ b' (B,s,n) { w with heap:=w.heap.setIfInBounds B o }) :
  SRel ro n0 φ (σ.set A (some b')) { w with heap:=w.heap.setIfInBounds B o }∧Below n0 w { w with heap:=w.heap.setIfInBounds B o }:=by
 have hs:(σ.get A).isSome=true:=by simp_all
 have hn:n0≤B:=h.o A _ hro hs hA;have hoth:∀k,k≠B→({ w with heap:=w.heap.setIfInBounds B o }:World).heap[k]? = w.heap[k]?:=fun k hk=>cP (dI hk);refine⟨h.put hA hro hs b' hr (by simp) fun k hk _=>hoth k hk,⟨rfl,rfl,rfl,by simp,fun k hk=>hoth k (by omega)⟩⟩
def yQ(C:Cx)(ro:Nat)(σ:Hp)(t:TypeId)(m k v:AV):Option Hp:=
 match C.und t,m with
 | some (.map kt _),.mp M=>bif Nat.ble ro M then
   match C.und kt,σ.get M with
   | some d,some (.mapb es cl)=>bif plainKey d then
     match wRG d k es 0 with
     |some (some (j,_))=>some (σ.set M (some (.mapb (modX es j k v) cl)))
     |some none=>some (σ.set M (some (.mapb (es++[(k,v,cl)]) (cl+1))))
     |none=>none
    else none
   |_,_=>none
  else none
 |_,_=>none
theorem wKB{C:Cx}(hC:CxOk P C)(h:SRel ro n0 φ σ w){t:TypeId}{m k v:AV}{u i x:Value}{σ':Hp}(e:yQ C ro σ t m k v=some σ')(hm:VRel φ m u)(hi:VRel φ k i)(hv:VRel φ v x) :
  ∃w',(Instr.mapUpdate t u i x).run P w=.ok () w'∧SRel ro n0 φ σ' w'∧Below n0 w w':=by
 unfold yQ at e;split at e
 case h_2=>cases e
 case h_1 kt el M ht=>
  cases hro:Nat.ble ro M with
  |false=>simp_all
  | true =>
   rw[hro]at e;simp only[cond_true]at e;split at e
   case h_2=>cases e
   case h_1 d es cl hd hg=>
    cases hp:plainKey d with
    |false=>simp_all
    | true=>
     rw[hp]at e;simp only[cond_true]at e;cases hm with
     | mp hφ=>
      rename_i B s n;obtain⟨y,hy,es',h1,h2⟩:=h.h _ _ hg;rw[hφ]at hy;cases hy;dsimp only at h1;have hlt:B<w.heap.size:=(pU.1 h1).1;have hck:=run_checkKey (P:=P) (w:=w) hC hd hp false 9999 i;split at e
      ·rename_i j a hf;cases e;obtain⟨r',q1,q2⟩:=run_findKey (P:=P) (w:=w) hC hd hi h2 hf;obtain⟨_,e0,g1,g2⟩:=wX0 hi h2 hf;cases q2 with
       | some q2=>
        refine⟨{ w with heap:=w.heap.setIfInBounds B (.map (es'.modify j fun e=>{ e with key:=i,val:=x }) cl) },?_,qD6 h hφ (pI hro) hg ⟨es'.modify j fun e=>{ e with key:=i,val:=x },by simp[hlt],?_⟩⟩
        ·have g1':es'[j]? = some e0:=by rw[←Array.getElem?_toList];simpa using g1
         simp[Instr.mapUpdate,wP hC ht w,getObj,setObj,Sem.run,h1,hck,q1,g1',Instr.keyThatStays,g2 10000,Result.andThen]
        ·rw[Array.toList_modify];exact h2.modify hi hv j
      ·rename_i hf;cases e;obtain⟨r',q1,q2⟩:=run_findKey (P:=P) (w:=w) hC hd hi h2 hf;cases q2 with
       |none=>
        refine⟨{ w with heap:=w.heap.setIfInBounds B (.map (es'.push { key:=i,val:=x,born:=cl }) (cl+1)) },?_,qD6 h hφ (pI hro) hg ⟨es'.push { key:=i,val:=x,born:=cl },by simp[hlt],?_⟩⟩
        ·simp[Instr.mapUpdate,wP hC ht w,getObj,setObj,Sem.run,h1,hck,q1,Result.andThen]
        ·rw[Array.toList_push];exact h2.push hi hv
      grind
def qEA(C:Cx)(σ:Hp)(c:Nat)(t:TypeId)(x:AV):Option (AV×Hp×Nat):=
 match C.und t,x with
 |some .string,.str s=>some (.ptr c 0,σ.set c (some (.sit s 0)),c+1)
 |_,_=>none
theorem eRange_ok{C:Cx}(hC:CxOk P C)(h:SRel ro n0 φ σ w){t:TypeId}{x v:AV}{u:Value}{σ':Hp}{c':Nat}(e:qEA C σ c t x=some (v,σ',c'))(hf:vZ c c' φ)(hx:VRel φ x u) :
  wA5 P ro n0 c φ w (Instr.range t u) v σ' c':=by
 unfold qEA at e;split at e
 case h_2=>cases e
 case h_1 s ht=>
  cases e;cases hx;have hc:=hf c (pC _) (by omega);refine⟨.pointer (some ⟨w.heap.size,0,none⟩),w.alloc (.stringIter s 0),φ.ext c (w.heap.size,0,0),?_,?_,h.alloc hc (.sit s 0) (.stringIter s 0) 0 ⟨heap_alloc_new _ _,rfl⟩,Ext.alloc _,(Below.refl _ _).alloc h.s _⟩
  ·simp[Instr.range,wP hC ht w,newObj,Sem.run,Result.andThen]
  ·have:=VRel.ptr (φ:=φ.ext c (w.heap.size,0,0)) (off:=0) (Ren.ext_self φ c (w.heap.size,0,0));omega
def eNext(ro:Nat)(σ:Hp)(it:AV)(isString:Bool):Option (AV×Hp):=
 match it,isString with
 | .ptr A 0,true=>bif Nat.ble ro A then
   match σ.get A with
   | some (.sit s pos)=>bif Nat.blt pos s.size then
     match Utf8.decode s pos with
     |(ch,width)=>some (.tup [.bool true,.int .i64 pos,.int .i32 ch],σ.set A (some (.sit s (pos+width))))
    else some (.tup [.bool false],σ)
   |_=>none
  else none
 |_,_=>none
theorem eNext_ok(h:SRel ro n0 φ σ w){it v:AV}{b:Bool}{u:Value}{ty:TypeId}{σ':Hp}(e:eNext ro σ it b=some (v,σ'))(hi:VRel φ it u) :
  ∃r w',(Instr.next u b ty).run P w=.ok r w'∧VRel φ v r∧SRel ro n0 φ σ' w'∧Below n0 w w':=by
 unfold eNext at e;split at e
 case h_2=>cases e
 case h_1 A=>
  cases hro:Nat.ble ro A with
  |false=>simp_all
  | true=>
   rw[hro]at e;simp only[cond_true]at e;split at e
   case h_2=>cases e
   case h_1 s pos hg=>
    cases hi with
    | ptr hφ=>
     rename_i B st n;obtain⟨y,hy,h1,h2⟩:=h.h _ _ hg;rw[hφ]at hy;cases hy;dsimp only at h1 h2;subst h2;have hlt:B<w.heap.size:=(pU.1 h1).1;cases hp:Nat.blt pos s.size with
     |false=>
      rw[hp]at e;cases e;have hpos:¬pos<s.size:=fun hh=>by grind [Nat.blt,Nat.blt_eq]
      exact⟨.tuple #[.bool false],w,by simp[Instr.next,getObj,Sem.run,h1,hpos],.tup (.cons (.bool _) .nil),h,Below.refl _ _⟩
     |true=>
      rw[hp]at e;simp only[cond_true]at e;have hpos:pos<s.size:=by simp_all
      cases e;refine⟨.tuple #[.bool true,goInt pos,.int .i32 (Utf8.decode s pos).1],{ w with heap:=w.heap.setIfInBounds B (.stringIter s (pos+(Utf8.decode s pos).2)) },?_,.tup (.cons (.bool _) (.cons (.int _ _) (.cons (.int _ _) .nil))),qD6 h hφ (pI hro) hg ⟨by grind,rfl⟩⟩;simp[Instr.next,getObj,setObj,Sem.run,h1,hpos]
def lacks(got:List Method):List (String×TypeId)→Bool
 |[]=>false
 |x::l=>bif got.any (fun m=>m.name==x.1&&m.sig==x.2)then lacks got l else true
theorem qI8(got:Array Method):∀(l:List (String×TypeId)),lacks got.toList l=!(l.filter fun(x:String×TypeId)=>!got.any fun m=>m.name==x.1&&m.sig==x.2).isEmpty
 |[]=>rfl
 |x::l=>by
  simp only[lacks,List.filter_cons];rw[qI8 got l]
  grind
theorem wW1{l:List String}(h:Instr.least l=none):l=[]:=by
 cases l with
 |nil=>rfl
 |cons a l=>cases h
theorem wO0{want:Array (String×TypeId)}{got:Array Method}:(Instr.missingMethod want got=none)↔lacks got.toList want.toList=false:=by
 rw[qI8];unfold Instr.missingMethod;generalize hM:(List.filter (fun(x:String×TypeId)=>!got.any fun m=>m.name==x.1&&m.sig==x.2) want.toList)=M;have hM':(List.filter (fun x:String×TypeId=>match x with|(name,sig)=>!got.any fun m=>m.name==name&&m.sig==sig) want.toList)=M:=hM;simp only[hM'];cases M with
 |nil=>simp[Instr.least]
 | cons a M=>
  simp only[List.isEmpty_cons,Bool.not_false];constructor
  ·intro h;exfalso;rw[mE,List.partition_eq_filter_filter]at h;dsimp only at h;cases hc:a.1.contains (Char.ofNat 46)with
   | true=>
    cases h1:Instr.least (List.filter (not∘fun x=>x.contains (Char.ofNat 46)) (a.1::M.map (·.1)))with
    |some s=>rw[h1]at h;cases h
    |none=>rw[h1]at h;have h2:=List.map_eq_nil_iff.1 (wW1 (show Instr.least _=none from h));exact List.filter_eq_nil_iff.1 h2 a.1 (by simp) hc
   | false=>
    cases h1:Instr.least (List.filter (not∘fun x=>x.contains (Char.ofNat 46)) (a.1::M.map (·.1)))with
    |some s=>rw[h1]at h;cases h
    |none=>exact List.filter_eq_nil_iff.1 (wW1 h1) a.1 (by simp) (by simp only[Function.comp,hc];rfl)
  simp_all
def qEE(C:Cx)(x:AV)(xt at_:TypeId)(ok:Bool):Option AV:=
 match C.und at_ with
 |none=>none
 | some (.interface want)=>match x with
  | .nili=>bif ok then(match C.zero at_ with
    |some z=>some (.tup [z,.bool false])
    |none=>none)else none
  | .ifc t v=>match C.tys.get t with
   |none=>none
   | some i=>match lacks i.methods.toList want.toList with
    |false=>some (bif ok then .tup [.ifc t v,.bool true]else .ifc t v)
    |true=>bif ok then(match C.zero at_ with
     |some z=>some (.tup [z,.bool false])
     |none=>none)else none
  |_=>none
 |some _=>match x with
  | .nili=>bif ok then(match C.zero at_ with
    |some z=>some (.tup [z,.bool false])
    |none=>none)else none
  | .ifc t v=>bif Nat.beq t at_ then some (bif ok then .tup [v,.bool true]else v)else
    bif ok then(match C.zero at_ with
    |some z=>some (.tup [z,.bool false])
    |none=>none)else none
  |_=>none
theorem eAssert_ok{C:Cx}(hC:CxOk P C){x v:AV}{xt at_:TypeId}{ok:Bool}{u:Value}(e:qEE C x xt at_ ok=some v)(hx:VRel φ x u) :
  ∃r,(Instr.typeAssert u xt at_ ok).run P w=.ok r w∧VRel φ v r:=by
 unfold qEE at e;split at e
 ·cases e
 ·rename_i want hd;have hu:=wP hC hd w;split at e
  ·cases hx;cases ok with
   |false=>cases e
   | true=>
    simp only[cond_true]at e;split at e
    case h_2=>cases e
    case h_1 z hz=>cases e;obtain⟨zz,z1,z2,_⟩:=xY hC hz φ w;refine⟨.tuple #[zz,.bool false],?_,.tup (.cons z2 (.cons (.bool _) .nil))⟩;unfold Instr.typeAssert;simp[hu,z1,Result.andThen]
  ·rename_i t a;cases hx with
   | ifc hv=>
    rename_i vv;split at e
    ·cases e
    ·rename_i i hi;have hinfo:(typeInfo t).run P w=.ok i w:=by simp[typeInfo,hC.tys _ _ hi]
     split at e
     ·rename_i hmm;have hmm:=wO0.2 hmm;cases e;refine⟨if ok=true then .tuple #[.iface t vv,.bool true]else .iface t vv,?_,?_⟩
      ·unfold Instr.typeAssert;cases ok<;>simp[hu,hinfo,hmm,Result.andThen]
      ·cases ok
       ·exact .ifc hv
       ·exact .tup (.cons (.ifc hv) (.cons (.bool _) .nil))
     ·rename_i hmm;obtain⟨m,hmm⟩:∃m,Instr.missingMethod want i.methods=some m:=by
       cases hx:Instr.missingMethod want i.methods with
       |none=>rw[wO0.1 hx]at hmm;cases hmm
       |some m=>exact⟨m,rfl⟩
      cases ok with
      |false=>cases e
      | true=>
       simp only[cond_true]at e;split at e
       case h_2=>cases e
       case h_1 z hz=>cases e;obtain⟨zz,z1,z2,_⟩:=xY hC hz φ w;refine⟨.tuple #[zz,.bool false],?_,.tup (.cons z2 (.cons (.bool _) .nil))⟩;unfold Instr.typeAssert;simp[hu,hinfo,hmm,z1,Result.andThen]
  grind
 ·rename_i d hni hd;have hu:=wP hC hd w;have hd':∀m,d≠.interface m:=fun m hm=>hni m hm;split at e
  ·cases hx;cases ok with
   |false=>cases e
   | true=>
    simp only[cond_true]at e;split at e
    case h_2=>cases e
    case h_1 z hz=>cases e;obtain⟨zz,z1,z2,_⟩:=xY hC hz φ w;refine⟨.tuple #[zz,.bool false],?_,.tup (.cons z2 (.cons (.bool _) .nil))⟩;unfold Instr.typeAssert;cases d<;>first|(exact absurd rfl (hd' _))|simp[hu,z1,Result.andThen]
  ·rename_i t a;cases hx with
   | ifc hv=>
    rename_i vv;cases ht:Nat.beq t at_ with
    | true=>
     rw[ht]at e;simp only[cond_true]at e;cases e;have:=pV ht;subst this;refine⟨if ok=true then .tuple #[vv,.bool true]else vv,?_,?_⟩
     ·unfold Instr.typeAssert;cases d<;>first|(exact absurd rfl (hd' _))|(cases ok<;>simp[hu,Result.andThen])
     ·cases ok
      ·exact hv
      ·exact .tup (.cons hv (.cons (.bool _) .nil))
    | false=>
     rw[ht]at e;simp only[cond_false]at e;have hne:t≠at_:=fun h=>by subst h;simp at ht
     cases ok with
     |false=>cases e
     | true=>
      simp only[cond_true]at e;split at e
      case h_2=>cases e
      case h_1 z hz=>cases e;obtain⟨zz,z1,z2,_⟩:=xY hC hz φ w;refine⟨.tuple #[zz,.bool false],?_,.tup (.cons z2 (.cons (.bool _) .nil))⟩;unfold Instr.typeAssert;cases d<;>first|(exact absurd rfl (hd' _))|simp[hu,hne,z1,Result.andThen]
  grind
end
def ixL(c:UInt8):List UInt8→Nat→Int
 |[],_=>-1
 |b::l,k=>bif b==c then .ofNat k else ixL c l (k+1)
def cntL(c:UInt8):List UInt8→Nat→Nat
 |[],n=>n
 |b::l,n=>bif b==c then cntL c l (n+1)else cntL c l n
theorem ixL_eq(c:UInt8):∀(l:List UInt8)(k:Nat),ixL c l k=if Lib.indexByte l c = -1 then -1 else Lib.indexByte l c+k
 |[],k=>by rfl
 | b::l,k=>by
  have hge:=Lib.indexByte_ge l c;simp only[ixL,Lib.indexByte];rcases gZ (b==c)with hb|hb
  ·simp_all
  ·simp only[hb,cond_false,Bool.false_eq_true,if_false];rw[ixL_eq c l (k+1)]
   grind
theorem ixL_index(c:UInt8)(l:List UInt8):ixL c l 0=Lib.indexByte l c:=by simp_all [ixL_eq]
theorem qF2(c:UInt8):∀(l:List UInt8)(n:Nat),cntL c l n=n+Lib.countByte l c
 |[],n=>by rfl
 |b::l,n=>by
  unfold Lib.countByte;rw[List.count_cons];simp only[cntL];rcases gZ (b==c)with hb|hb
  ·simp only[hb,cond_true,if_true];rw[qF2 c l];grind [Lib.countByte]
  ·simp only[hb,cond_false,Bool.false_eq_true,if_false];rw[qF2 c l];rfl
def eExt(C:Cx)(σ:Hp)(c:Nat)(x:ExtK)(args:List AV):Option (AV×Hp×Nat):=
 match x,args with
 |.same,[a]=>some (a,σ,c)
 |.count,[.str s,.int .u8 n]=>some (.int .i64 (.ofNat (cntL n.toNat.toUInt8 s.data.toList 0)),σ,c)
 |.index,[.str s,.int .u8 n]=>some (.int .i64 (ixL n.toNat.toUInt8 s.data.toList 0),σ,c)
 | .noZero t,[.int .i64 (.ofNat n)]=>match C.und t with
  |some (.slice e)=>match C.size e with
   |some 1=>bif Nat.ble n 281474976710656 then some (.sl c 0 n n 1 false,σ.set c (some (.cells [] (some e))),c+1)else none
   |_=>none
  |_=>none
 |_,_=>none
section
variable{P:Program}{ro n0 c:Nat}{φ:Ren}{σ:Hp}{w:World}
theorem eExt_ok{C:Cx}(hC:CxOk P C)(h:SRel ro n0 φ σ w){x:ExtK}{args:List AV}{v:AV}{σ':Hp}{c':Nat}(e:eExt C σ c x args=some (v,σ',c'))(hf:vZ c c' φ){us:List Value}(ha:LRel φ args us) :
  wA5 P ro n0 c φ w (x.sem us.toArray) v σ' c':=by
 unfold eExt at e;split at e
 ·cases e;cases ha with
  |cons h1 h2=>cases h2;exact wA5.pure h ⟨_,rfl,h1⟩
 ·cases e;cases ha with
  | cons h1 h2=>cases h2 with
   |cons h2 h3=>cases h3;cases h1;cases h2;rename_i s n;refine wA5.pure h ⟨_,Lib.run_countString s n w,?_⟩;rw[qF2,cL];exact .int _ _
 ·cases e;cases ha with
  | cons h1 h2=>cases h2 with
   |cons h2 h3=>cases h3;cases h1;cases h2;rename_i s n;refine wA5.pure h ⟨_,run_indexByte_string s n w,?_⟩;rw[ixL_index,Lib.firstIdx_eq];exact .int _ _
 ·rename_i t n;split at e
  case h_2=>cases e
  case h_1 el hu=>
   split at e
   case h_2=>cases e
   case h_1 hs=>
    cases hb:Nat.ble n 281474976710656 with
    |false=>rw[hb]at e;cases e
    | true=>
     rw[hb]at e;cases e;have hn:=pI hb;cases ha with
     |cons h1 h2=>
      cases h2;cases h1;obtain⟨cs,hrun,hge,_⟩:=Lib.run_makeNoZero (P:=P) w #[] t el (hC.und hu) n hn;have hfc:φ c=none:=hf c (pC _) (by omega);refine⟨_,_,φ.ext c (w.heap.size,0,cs.size),hrun,?_,?_,Ext.alloc _,(((Below.refl _ _).drew).drew).alloc h.s _⟩
      ·have:=VRel.sl (φ:=φ.ext c (w.heap.size,0,cs.size)) (off:=0) (len:=n) (cap:=n) (c:=cs.size) (esz:=1) (ex:=false) (Ren.ext_self _ _ _) (pC _) hge (fun hh=>by cases hh) (by omega);simpa using this
      ·exact SRel.alloc (w:=w.drew.drew) h.drew.drew hfc (.cells [] (some el)) _ cs.size ⟨cs,el,heap_alloc_new _ _,wA4.some _,rfl,by show 0+0≤cs.size;omega,by show LRel _ [] _;exact .nil⟩
 grind
def eUData(x:AV):Option AV:=
 match x with
 |.sl A off _ (_+1) _ _=>some (.ptr A off)
 |.nils=>some .nilp
 |_=>none
theorem eUData_ok{x v:AV}(e:eUData x=some v){u:Value}(hx:VRel φ x u)(ts:Array TypeId)(ty:TypeId) :
  ∃r,(Builtin.unsafeSliceData_ ts ty #[u]).run P w=.ok r w∧VRel φ v r:=by
 unfold eUData at e;split at e
 ·cases e;cases hx with
  |sl hφ h1 h2 h3 h4=>exact⟨_,Lib.run_unsafeSliceData_row w ts ty _ _ _ (by omega),.ptr hφ⟩
 ·cases e;cases hx;exact⟨_,Lib.run_unsafeSliceData_nil w ts ty 0 0,.nilp⟩
 grind
theorem SRel.drop{w':World}(h:SRel ro n0 φ σ w){A:Nat}{x:Nat×Nat×Nat}(hA:φ A=some x)(hro:ro≤A)(hsome:(σ.get A).isSome=true)(hsz:w.heap.size≤w'.heap.size)(hoth:∀k,k≠x.1→k<w.heap.size→w'.heap[k]? = w.heap[k]?):SRel ro n0 φ (σ.set A none) w':=by
 have key:∀B,((σ.set A none).get B).isSome=true→B≠A∧(σ.get B).isSome=true:=by grind [Tree.get_set]
 refine⟨?_,fun B y hr hs hy=>h.o B y hr (key B hs).2 hy,fun B B' y y' hr hne hs hs' hy hy'=>h.d B B' y y' hr hne (key B hs).2 (key B' hs').2 hy hy',pD h.s hsz⟩;intro B b e;rw[Tree.get_set]at e;by_cases hB:B=A
 ·simp_all
 ·rw[if_neg hB]at e;obtain⟨y,hy,hr⟩:=h.h B b e;refine⟨y,hy,hr.mono (Ren.le.refl φ) (hoth _ ?_ hr.lt)⟩;exact fun heq=>h.d A B x y hro (dI hB) hsome (by grind) hA hy heq.symm
theorem qK2:∀{r:List AV}{bs:List UInt8}{us:List Value},bytesOf r=some bs→LRel φ r us→(∀a∈r,∃n,n<256∧a=.int .u8 (.ofNat n))→us=Lib.byteCells bs
 |[],bs,us,e,h,_=>by cases e;cases h;rfl
 | x::xs,bs,us,e,h,hr=>by
  obtain⟨n,hn,rfl⟩:=hr x (by simp);simp only[bytesOf]at e;split at e
  ·rename_i bs' hb;cases e;cases h with
   |cons h1 h2=>cases h1;rw[qK2 hb h2 fun a ha=>hr a (by simp[ha])];simp only[Lib.byteCells,List.map_cons];congr 2;rw[UInt8.toNat_ofNat_of_lt' (by simpa using hn)];rfl
  grind
def allB:List AV→Bool
 |[]=>true
 |.int .u8 (.ofNat n)::xs=>bif Nat.blt n 256 then allB xs else false
 |_=>false
theorem allB_ok:∀{r:List AV},allB r=true→∀a∈r,∃n,n<256∧a=.int .u8 (.ofNat n)
 |[],_,a,ha=>by cases ha
 | x::xs,h,a,ha=>by
  unfold allB at h;split at h
  ·rename_i heq;cases heq
  ·rename_i n xs' heq;cases heq;cases hb:Nat.blt n 256 with
   |false=>rw[hb]at h;cases h
   |true=>
    rw[hb]at h;cases ha with
    |head=>exact⟨n,by simpa using hb,rfl⟩
    |tail _ ha=>exact allB_ok h a ha
  grind
def eUStr(C:Cx)(ro:Nat)(σ:Hp)(ts:List TypeId)(p n:AV):Option (AV×Hp):=
 match ts,p,n with
 | t :: _::[],.ptr A off,.int .i64 (.ofNat (n+1))=>match C.und t,σ.get A with
  | some (.pointer e),some (.cells cs (some e'))=>match C.size e with
   | some 1=>bif Nat.beq e e'&&Nat.beq off 0&&Nat.ble ro A&&Nat.ble (n+1) 9223372036854775807 then
     match lsub cs 0 (n+1)with
     |some r=>bif allB r then match bytesOf r with
      |some bs=>some (.str ⟨bs.toArray⟩,σ.set A none)
      |none=>none
      else none
     |none=>none
    else none
   |_=>none
  |_,_=>none
 |_::_::[],.nilp,.int .i64 (.ofNat 0)=>some (.str .empty,σ)
 |_,_,_=>none
theorem eUStr_ok{C:Cx}(hC:CxOk P C)(h:SRel ro n0 φ σ w){ts:List TypeId}{p n v:AV}{σ':Hp}(e:eUStr C ro σ ts p n=some (v,σ')){up un:Value}(hp:VRel φ p up)(hn:VRel φ n un)(ty:TypeId) :
  wA5 P ro n0 c φ w (Builtin.unsafeString_ ts.toArray ty #[up,un]) v σ' c:=by
 unfold eUStr at e;split at e
 ·rename_i t it A off n;split at e
  case h_2=>cases e
  case h_1 el cs el' hu hA=>
   split at e
   case h_2=>cases e
   case h_1 hs=>
    cases hb:(Nat.beq el el'&&Nat.beq off 0&&Nat.ble ro A&&Nat.ble (n+1) 9223372036854775807)with
    |false=>rw[hb]at e;cases e
    | true=>
     rw[hb]at e;simp only[cond_true]at e;simp only[Bool.and_eq_true]at hb;obtain⟨⟨⟨b1,b2⟩,b3⟩,b4⟩:=hb;have b1:el=el':=by simpa using b1
     have b2:off=0:=by simpa using b2
     have b3:=pI b3;have b4:=pI b4;subst b1;subst b2;split at e
     case h_2=>cases e
     case h_1 r hr=>
      cases hall:allB r with
      |false=>rw[hall]at e;cases e
      | true=>
       rw[hall]at e;simp only[cond_true]at e;split at e
       case h_2=>cases e
       case h_1 bs hbs=>
        cases e;cases hn;cases hp with
        | ptr hφ=>
         rename_i B s m;have hrd:jG σ A 0 (n+1)=some r:=by unfold jG;rw[hA];exact hr
         obtain⟨us,_,hL,hlen,hcell⟩:=qCF (P:=P) h hrd hφ;obtain⟨y,hφ',ccs,ety,hh,hty,hsz,hle,hc⟩:=h.h A _ hA;rw[hφ]at hφ';cases hφ';dsimp only at hh hsz hle hty;obtain⟨ht1,ht2⟩:=hty _ rfl;subst ht1;subst ht2;have hus:=qK2 hbs hL (allB_ok hall);subst hus;have hbl:bs.length=n+1:=by rw[←hlen];exact(Lib.byteCells_length bs).symm
         obtain⟨j,hj,hjs⟩:=C.size_info hs;have hcells:P.cellsOf ety=1:=by simp[Program.cellsOf,hC.tys _ _ hj,hjs]
         have hrl:=(wFG hr).2.1;have hfit:n+1≤cs.length:=by rcases(wFG hr).2.2 with h|h<;>omega
         have hrun:=Lib.run_unsafeString_row (P:=P) w t it ty ety (hC.und hu) hcells B ccs.size (by simp only[World.shape?,hh]) bs (by intro h0;subst h0;simp at hbl) (by omega) (by omega) (fun j x hx=>by refine hcell j _ ?_;simp[Lib.byteCells,hx])
         have hn0:n0≤B:=h.o A _ b3 (by rw[hA];rfl) hφ;have hbel:Below n0 w (w.freeze ⟨B,0,none⟩ bs.length):=Lib.below_freeze (Below.refl n0 w) hn0 _;have hother:∀k,k≠B→(w.freeze ⟨B,0,none⟩ bs.length).heap[k]? = w.heap[k]?:=by
          intro k hk;unfold World.freeze;split
          ·rfl
          ·simp only[Array.getElem?_modify];rw[if_neg (dI hk)]
         rw[hbl]at hrun hbel hother;refine⟨_,_,φ,hrun,.str _,h.drop hφ b3 (by rw[hA];rfl) hbel.size (fun k hk _=>hother k hk),Ext.refl _ _,hbel⟩
 ·cases e;cases hn;cases hp;rename_i t it;exact wA5.pure h ⟨_,Lib.run_unsafeString_none w t it ty none,.str _⟩
 grind
end
inductive ARes where
 |val (v:AV) (σ:Hp) (c:Nat)
 |call (f:FuncId) (args:List AV)
 |yld (L:Nat) (args:List AV)
 |rcv
 |dfr (f:FuncId) (caps args:List AV)
def opd(t:Tree AV):Operand→Option AV
 |.tmp d=>some (match t.get d with|some v=>v|none=>.tup [])
 |.const v=>wH4 3 v
 |.global _=>none
 |.func f=>some (.fn (.func f) [] [])
def optO(t:Tree AV):Option Operand→Option (Option AV)
 |none=>some none
 |some x=>match opd t x with
  |some v=>some (some v)
  |none=>none
def wG5(t:Tree AV):List (Nat×Operand)→Option (List (Nat×AV))
 |[]=>some []
 | (i,x)::xs=>match opd t x with
  |none=>none
  |some a=>match wG5 t xs with
   |none=>none
   |some r=>some ((i,a)::r)
def kI(σ:Hp)(c:Nat):Option AV→Option ARes
 |some v=>some (.val v σ c)
 |none=>none
def memR:Option (AV×Hp×Nat)→Option ARes
 |some (v,σ,c)=>some (.val v σ c)
 |none=>none
def wGC(c:Nat):Option Hp→Option ARes
 |some σ=>some (.val (.tup []) σ c)
 |none=>none
def wE8(C:Cx)(ro:Nat)(σ:Hp)(c:Nat)(b:Builtin)(ts:List TypeId)(args:List AV):Option ARes:=
 match b,args with
 |.append,s::x::_=>memR (wOA C ro σ c ts s x)
 |.copy,d::x::_=>match eCopy C ro σ ts d x with
  |some (v,σ')=>some (.val v σ' c)
  |none=>none
 |.len,x::_=>kI σ c (eLen C ts x)
 |.cap,x::_=>kI σ c (eCap C ts x)
 |.max,xs=>kI σ c (eMM true xs)
 |.min,xs=>kI σ c (eMM false xs)
 |.recover,_=>some .rcv
 |.unsafeSliceData,[x]=>kI σ c (eUData x)
 |.unsafeString,[p,n]=>match eUStr C ro σ ts p n with
  |some (v,σ')=>some (.val v σ' c)
  |none=>none
 |_,_=>none
def qEB(C:Cx)(name:String)(a:AV):Option (FuncId×AV):=
 match a with
 | .ifc t v=>match C.tys.get t with
  | some i=>match i.methods.find? (·.name==name)with
   |some m=>match m.path.toList,m.func,C.und t with
    |[],some (f,true),some (.pointer _)=>some (f,v)
    |[],some (_,false),some (.pointer _)=>none
    |[],some (f,false),some _=>some (f,v)
    |_,_,_=>none
   |none=>none
  |none=>none
 |_=>none
def eExtF(C:Cx)(σ:Hp)(c:Nat)(g:FuncId)(args:List AV):Option ARes:=
 match C.exts.get g with
 |some x=>memR (eExt C σ c x args)
 |none=>none
theorem wBG{C:Cx}{σ:Hp}{c:Nat}{g:FuncId}{args:List AV}{r:ARes}(e:eExtF C σ c g args=some r):∃v σ' c',r=.val v σ' c':=by
 unfold eExtF at e;split at e
 ·unfold memR at e;split at e<;>cases e;exact⟨_,_,_,rfl⟩
 grind
def yB(C:Cx)(ro:Nat)(σ:Hp)(c:Nat)(t:Tree AV)(k:Call):Option ARes:=
 match xA (opd t) k.args.toList with
 |none=>none
 | some args=>match k.callee with
  | .value f=>match opd t f with
   |some (.fn (.func g) fs cs)=>match C.fns.get g with
    |some _=>some (.call g (fs++args++cs))
    |none=>eExtF C σ c g (fs++args++cs)
   |some (.yld L)=>some (.yld L args)
   |_=>none
  |.builtin b=>wE8 C ro σ c b k.argTypes.toList args
  | .invoke r name=>match opd t r with
   | some a=>match qEB C name a with
    |some (g,v)=>match C.fns.get g with
     |some _=>some (.call g (v::args))
     |none=>none
    |none=>none
   |none=>none
def eOp(C:Cx)(ro:Nat)(σ:Hp)(c:Nat)(t:Tree AV)(o:Oper):Option ARes:=
 match o.op with
 |.move x=>kI σ c (opd t x)
 |.assign x=>kI σ c (opd t x)
 |.pick q a b=>match opd t q with
  |some (.bool true)=>kI σ c (opd t a)
  |some (.bool false)=>kI σ c (opd t b)
  |_=>none
 |.alloc e=>memR (qEG C σ c e)
 |.box _ x=>match opd t x with
  |some a=>memR (some (eBox σ c a))
  |none=>none
 |.build ty ps=>match wG5 t ps.toList with
  |some l=>kI σ c (eBuild C ty l)
  |none=>none
 |.buildSlice ty len ps=>match wG5 t ps.toList with
  |some l=>memR (wCI C σ c ty len l)
  |none=>none
 |.load ty a=>match opd t a with
  |some a=>kI σ c (eLoad C σ ty a)
  |none=>none
 |.store ty a v=>match opd t a,opd t v with
  |some a,some v=>wGC c (wIB C ro σ ty a v)
  |_,_=>none
 |.nilCheck x=>match opd t x with
  |some (.ptr A off)=>some (.val (.ptr A off) σ c)
  |some (.fn (.func f) fs cs)=>some (.val (.fn (.func f) fs cs) σ c)
  |some (.yld L)=>some (.val (.yld L) σ c)
  |some (.ifc ty v)=>some (.val (.ifc ty v) σ c)
  |_=>none
 |.binOp op ty x y _=>match opd t x,opd t y with
  |some a,some b=>kI σ c (eBin C op ty x y a b)
  |_,_=>none
 |.unOp op _ x=>match op,opd t x with
  |.neg,some (.int k n)=>kI σ c (wH6 .sub k 0 n)
  |.xor,some (.int k n)=>kI σ c (wH6 .xor k (if k.signed then -1 else k.max) n)
  |.not,some (.bool b)=>some (.val (.bool (!b)) σ c)
  |_,_=>none
 |.convert src dst x=>match opd t x with
  |some a=>kI σ c (eConv C σ src dst a)
  |none=>none
 |.makeInterface ty x=>match C.und ty,opd t x with
  |some (.interface _),_=>none
  |some _,some a=>some (.val (.ifc ty a) σ c)
  |_,_=>none
 |.makeFunc (.func f) first caps=>match xA (opd t) first.toList,xA (opd t) caps.toList with
  |some a,some b=>some (.val (.fn (.func f) a b) σ c)
  |_,_=>none
 |.makeSlice ty l m=>match opd t l,opd t m with
  |some a,some b=>memR (eMake C σ c ty a b)
  |_,_=>none
 | .slice ty x lo hi mx=>match opd t x,optO t lo,optO t hi,optO t mx with
  |some a,some l,some h,some m=>match bound l,bound h,bound m with
   |some l,some h,some m=>kI σ c (eSlice C ty a l h m)
   |_,_,_=>none
  |_,_,_,_=>none
 |.fieldAddr s x f=>match opd t x with
  |some a=>kI σ c (wLI C s a f)
  |none=>none
 |.field s x f=>match opd t x with
  |some a=>kI σ c (eField C s a f)
  |none=>none
 |.indexAddr ty x i=>match opd t x,opd t i with
  |some a,some b=>kI σ c (wLH C ty a b)
  |_,_=>none
 |.index ty x i=>match opd t x,opd t i with
  |some a,some b=>kI σ c (eIndex C ty a b)
  |_,_=>none
 |.extract x i=>match opd t x with
  |some (.tup vs)=>kI σ c vs[i]?
  |_=>none
 |.call k=>yB C ro σ c t k
 | .defer k=>match yB C ro σ c t k,k.callee with
  |some (.call _ _),.value f=>match opd t f,xA (opd t) k.args.toList with
   |some (.fn (.func g) fs cs),some args=>some (.dfr g cs (fs++args))
   |_,_=>none
  |_,_=>none
 |.makeMap _ none=>memR (some (wWI σ c))
 |.lookup ty x k ok=>match opd t x,opd t k with
  |some a,some b=>kI σ c (qEC C σ ty a b ok)
  |_,_=>none
 |.mapUpdate ty m k v=>match opd t m,opd t k,opd t v with
  |some a,some b,some d=>wGC c (yQ C ro σ ty a b d)
  |_,_,_=>none
 |.insert ty m k v=>match opd t m,opd t k,opd t v with
  |some a,some b,some d=>wGC c (yQ C ro σ ty a b d)
  |_,_,_=>none
 |.range ty x=>match opd t x with
  |some a=>memR (qEA C σ c ty a)
  |none=>none
 | .next it s=>match opd t it with
  |some a=>match eNext ro σ a s with
   |some (v,σ')=>some (.val v σ' c)
   |none=>none
  |none=>none
 |.typeAssert x xt ty ok=>match opd t x with
  |some a=>kI σ c (qEE C a xt ty ok)
  |none=>none
 |_=>none
section
variable{P:Program}{ro n0 c:Nat}{φ:Ren}{σ:Hp}{w:World}
def wY6(φ:Ren)(t:Tree AV)(ρ:Operand→Value):Prop:=∀x a,opd t x=some a→VRel φ a (ρ x)
theorem jM{nt:Nat}{t:Tree AV}{fr:Frame}(h:xT φ nt t fr.tmps):wY6 φ t fr.eval:=by
 intro x a e;cases x with
 |tmp d=>
  simp only[opd]at e;have:=h.2 d;cases hg:t.get d with
  |none=>rw[hg]at e this;cases e;exact this
  |some v=>rw[hg]at e this;cases e;exact this
 |const v=>exact qFI _ _ _ e
 |global g=>cases e
 |func f=>cases e;exact .fn .nil .nil
theorem x4{t:Tree AV}{ρ:Operand→Value}(h:wY6 φ t ρ):∀(l:List Operand)(r:List AV),xA (opd t) l=some r→LRel φ r (l.map ρ)
 |[],r,e=>by cases e;exact .nil
 | x::xs,r,e=>by
  simp only[xA]at e;cases h1:opd t x with
  |none=>simp_all
  |some a=>
   rw[h1]at e;dsimp only at e;cases h2:xA (opd t) xs with
   |none=>simp_all
   |some as=>rw[h2]at e;cases e;exact .cons (h _ _ h1) (x4 h xs as h2)
theorem wLF{t:Tree AV}{ρ:Operand→Value}(h:wY6 φ t ρ):∀(l:List (Nat×Operand))(r:List (Nat×AV)),wG5 t l=some r→PRel φ r (l.map fun(i,x)=>(i,ρ x))
 |[],r,e=>by cases e;exact .nil
 | (i,x)::xs,r,e=>by
  simp only[wG5]at e;cases h1:opd t x with
  |none=>simp_all
  |some a=>
   rw[h1]at e;dsimp only at e;cases h2:wG5 t xs with
   |none=>simp_all
   |some as=>rw[h2]at e;cases e;exact .cons (h _ _ h1) (wLF h xs as h2)
theorem wV8{t:Tree AV}{ρ:Operand→Value}(h:wY6 φ t ρ){x:Option Operand}{r:Option AV}(e:optO t x=some r):ORel φ r (x.map ρ):=by
 cases x with
 |none=>cases e;exact .none
 |some x=>
  simp only[optO]at e;cases h1:opd t x with
  |none=>simp_all
  |some a=>rw[h1]at e;cases e;exact .some (h _ _ h1)
def kW(P:Program)(ro n0 c:Nat)(φ:Ren)(w:World)(s:Sem Next)(v:AV)(σ':Hp)(c':Nat):Prop:=
 ∃nx u w' φ',s.run P w=.ok nx w'∧(nx=.value u∨(nx=.skip∧u=undef))∧VRel φ' v u∧SRel ro n0 φ' σ' w'∧Ext c c' φ φ'∧Below n0 w w'
theorem kW.ofV{s:Sem Value}{v:AV}{σ':Hp}{c':Nat}(h:wA5 P ro n0 c φ w s v σ' c'):kW P ro n0 c φ w (do pure (.value (←s))) v σ' c':=by obtain⟨u,w',φ',h1,h2,h3,h4,h5⟩:=h;exact⟨.value u,u,w',φ',by simp[h1],.inl rfl,h2,h3,h4,h5⟩
theorem kW.ofP{s:Sem Value}{v:AV}(h:SRel ro n0 φ σ w)(k:∃u,s.run P w=.ok u w∧VRel φ v u):kW P ro n0 c φ w (do pure (.value (←s))) v σ c:=
 kW.ofV (wA5.pure h k)
theorem kW.ret{v:AV}{u:Value}(h:SRel ro n0 φ σ w)(k:VRel φ v u):kW P ro n0 c φ w (pure (.value u)) v σ c:=
 ⟨.value u,u,w,φ,rfl,.inl rfl,k,h,Ext.refl _ _,Below.refl _ _⟩
theorem qH{x:Option AV}{v:AV}{σ':Hp}{c':Nat}(e:kI σ c x=some (.val v σ' c')):x=some v∧σ'=σ∧c'=c:=by
 cases x with
 |none=>cases e
 |some y=>cases e;simp_all
theorem kG{x:Option (AV×Hp×Nat)}{v:AV}{σ':Hp}{c':Nat}(e:memR x=some (.val v σ' c')):x=some (v,σ',c'):=by
 cases x with
 |none=>cases e
 |some y=>cases e;rfl
theorem qED{C:Cx}(hC:CxOk P C)(h:SRel ro n0 φ σ w){b:Builtin}{ts:Array TypeId}{args:List AV}{v:AV}{σ':Hp}{c':Nat}(e:wE8 C ro σ c b ts.toList args=some (.val v σ' c'))(hf:vZ c c' φ){us:List Value}(hargs:LRel φ args us)(ty:TypeId)(consts:Array Bool) :
  kW P ro n0 c φ w (builtin b ts ty consts us.toArray) v σ' c':=by
 have hts:ts.toList.toArray=ts:=by simp
 unfold wE8 at e;split at e
 ·cases hargs with
  | cons h1 h2=>cases h2 with
   |cons h2 h3=>refine kW.ofV (s:=Builtin.append_ ts ty _) ?_;rw[←hts];exact eAppend_ok hC h (kG e) hf h1 h2 ty _
 ·cases hargs with
  | cons h1 h2=>cases h2 with
   |cons h2 h3=>
    split at e
    ·rename_i hc;cases e;refine kW.ofV (s:=Builtin.copy_ ts ty _) ?_;rw[←hts];exact eCopy_ok hC h hc h1 h2 ty _
    ·cases e
 ·cases hargs with
  |cons h1 h2=>obtain⟨e1,rfl,rfl⟩:=qH e;refine kW.ofP (s:=Builtin.len_ ts ty _) h ?_;rw[←hts];exact eLen_ok hC e1 h1 ty _
 ·cases hargs with
  |cons h1 h2=>obtain⟨e1,rfl,rfl⟩:=qH e;refine kW.ofP (s:=Builtin.cap_ ts ty _) h ?_;rw[←hts];exact eCap_ok hC e1 h1 ty _
 ·obtain⟨e1,rfl,rfl⟩:=qH e;exact kW.ofP h (eMax'_ok e1 hargs ts ty)
 ·obtain⟨e1,rfl,rfl⟩:=qH e;exact kW.ofP h (eMin'_ok e1 hargs ts ty)
 ·cases e
 ·cases hargs with
  |cons h1 h2=>cases h2;obtain⟨e1,rfl,rfl⟩:=qH e;exact kW.ofP h (eUData_ok e1 h1 ts ty)
 ·cases hargs with
  | cons h1 h2=>cases h2 with
   |cons h2 h3=>
    cases h3;split at e
    ·rename_i hu;cases e;refine kW.ofV (s:=Builtin.unsafeString_ ts ty _) ?_;have:=eUStr_ok (P:=P) (c:=c) hC h hu h1 h2 ty;rw[hts]at this;exact this
    ·cases e
 grind
theorem wGG{ρ:Operand→Value}{k:Call}{b:Builtin}(hb:k.callee=.builtin b)(ty:TypeId) :
  ∃cs,(do let d ←resolve ρ k ty;invoke d.target d.args:Sem Next)=builtin b k.argTypes ty cs (k.args.map ρ):=
 ⟨_,by simp only[resolve,hb,pure_bind,invoke];rfl⟩
theorem wI1(ρ:Operand→Value)(l:Array Operand):l.map ρ=(l.toList.map ρ).toArray:=by grind
theorem xC{ρ:Operand→Value}{k:Call}{f:Operand}(hk:k.callee=.value f){fn:Fn}{first captured:Array Value}(hf:ρ f=.func fn first captured)(ty:TypeId) :
  resolve ρ k ty=pure { target:=.fn fn captured,args:=first++k.args.map ρ }:=by
 simp_all [resolve,Deferred.ofValue]
theorem eOp_val{C:Cx}(hC:CxOk P C)(h:SRel ro n0 φ σ w){t:Tree AV}{o:Oper}{ρ:Operand→Value}(hρ:wY6 φ t ρ){v:AV}{σ':Hp}{c':Nat}(e:eOp C ro σ c t o=some (.val v σ' c'))(hf:vZ c c' φ) :
  kW P ro n0 c φ w (execOp ρ o) v σ' c':=by
 unfold eOp at e;unfold execOp;dsimp only;split at e
 ·
  rename_i x hop;rw[hop];obtain⟨e1,rfl,rfl⟩:=qH e;exact kW.ret h (hρ _ _ e1)
 ·rename_i x hop;rw[hop];obtain⟨e1,rfl,rfl⟩:=qH e;exact kW.ret h (hρ _ _ e1)
 ·
  rename_i q a b hop;rw[hop];split at e
  ·rename_i hq;obtain⟨e1,rfl,rfl⟩:=qH e;have hb:=hρ _ _ hq;generalize hqv:ρ q=qv at hb;cases hb;refine⟨.value (ρ a),ρ a,w,φ,by simp[hqv,asBool],.inl rfl,hρ _ _ e1,h,Ext.refl _ _,Below.refl _ _⟩
  ·rename_i hq;obtain⟨e1,rfl,rfl⟩:=qH e;have hb:=hρ _ _ hq;generalize hqv:ρ q=qv at hb;cases hb;refine⟨.value (ρ b),ρ b,w,φ,by simp[hqv,asBool],.inl rfl,hρ _ _ e1,h,Ext.refl _ _,Below.refl _ _⟩
  ·cases e
 ·
  rename_i ty hop;rw[hop];exact kW.ofV (eAlloc_ok hC h (kG e) hf)
 ·
  rename_i ty x hop;rw[hop];split at e
  ·rename_i a ha;exact kW.ofV (eBox_ok h (gB (kG e)) hf (hρ _ _ ha))
  ·cases e
 ·
  rename_i ty ps hop;rw[hop];split at e
  ·rename_i l hl;obtain⟨e1,rfl,rfl⟩:=qH e;exact kW.ofP h (eBuild_ok hC e1 (by have:=wLF hρ _ _ hl;simpa using this))
  ·cases e
 ·
  rename_i ty len ps hop;rw[hop];split at e
  ·rename_i l hl;exact kW.ofV (wX3 hC h (kG e) hf (by have:=wLF hρ _ _ hl;simpa using this))
  ·cases e
 ·
  rename_i ty a hop;rw[hop];split at e
  ·rename_i a' ha;obtain⟨e1,rfl,rfl⟩:=qH e;exact kW.ofP h (qJ6 hC h e1 (hρ _ _ ha))
  ·cases e
 ·
  rename_i ty a x hop;rw[hop];split at e
  ·rename_i a' x' ha hx;unfold wGC at e;split at e
   ·rename_i σ2 hst;cases e;obtain⟨w',h1,h2,h3⟩:=eStore_ok (P:=P) hC h hst (hρ _ _ ha) (hρ _ _ hx);exact⟨.skip,undef,w',φ,by simp[h1],.inr ⟨rfl,rfl⟩,.tup .nil,h2,Ext.refl _ _,h3⟩
   ·cases e
  ·cases e
 ·
  rename_i x hop;rw[hop];dsimp only;split at e
  ·rename_i A off hx;cases e;have hb:=hρ _ _ hx;generalize hqv:ρ x=qv at hb;cases hb with
   |ptr hφ=>exact kW.ret h (.ptr hφ)
  ·rename_i f fs cs hx;cases e;have hb:=hρ _ _ hx;generalize hqv:ρ x=qv at hb;cases hb with
   |fn k1 k2=>exact kW.ret h (.fn k1 k2)
  ·rename_i L hx;cases e;have hb:=hρ _ _ hx;generalize hqv:ρ x=qv at hb;cases hb with
   |yld k1=>exact kW.ret h (.yld k1)
  ·rename_i ty v' hx;cases e;have hb:=hρ _ _ hx;generalize hqv:ρ x=qv at hb;cases hb with
   |ifc k1=>exact kW.ret h (.ifc k1)
  ·cases e
 ·
  rename_i op ty x y yt hop;rw[hop];split at e
  ·rename_i a b ha hb;obtain⟨e1,rfl,rfl⟩:=qH e;exact kW.ofP h (eBin_ok hC e1 (hρ _ _ ha) (hρ _ _ hb))
  ·cases e
 ·
  rename_i op ty x hop;rw[hop];split at e
  ·rename_i k n hx;obtain⟨e1,rfl,rfl⟩:=qH e;have hb:=hρ _ _ hx;generalize hqv:ρ x=qv at hb;cases hb;have:=wO9 (P:=P) (φ:=φ) (w:=w) e1 (by decide) (by decide) 0;exact kW.ofP h (by simpa[Op.unary,binOp,hqv]using this)
  ·rename_i k n hx;obtain⟨e1,rfl,rfl⟩:=qH e;have hb:=hρ _ _ hx;generalize hqv:ρ x=qv at hb;cases hb;have:=wO9 (P:=P) (φ:=φ) (w:=w) e1 (by decide) (by decide) 0;exact kW.ofP h (by simpa[Op.unary,binOp,hqv]using this)
  ·rename_i b hx;cases e;have hb:=hρ _ _ hx;generalize hqv:ρ x=qv at hb;cases hb;exact kW.ofP h ⟨.bool (!b),by simp[Op.unary,hqv],.bool _⟩
  ·cases e
 ·
  rename_i src dst x hop;rw[hop];split at e
  ·rename_i a ha;obtain⟨e1,rfl,rfl⟩:=qH e;exact kW.ofP h (eConv_ok hC h e1 (hρ _ _ ha))
  ·cases e
 ·
  rename_i ty x hop;rw[hop];split at e
  ·cases e
  ·rename_i d a hni hu ha;cases e;refine kW.ofP h ⟨.iface ty (ρ x),?_,.ifc (hρ _ _ ha)⟩;simp only[Instr.makeInterface,Sem.run_bind,wP hC hu,Result.andThen_ok];rfl
  ·cases e
 ·
  rename_i f first caps hop;rw[hop]
  split at e
  ·rename_i a b ha hb;cases e;refine kW.ofP h ⟨.func (.func f) (first.map ρ) (caps.map ρ),by simp[Instr.makeFunc],?_⟩;rw[wI1,wI1];exact .fn (x4 hρ _ _ ha) (x4 hρ _ _ hb)
  ·cases e
 ·
  rename_i ty l m hop;rw[hop];split at e
  ·rename_i a b ha hb;exact kW.ofV (eMake_ok hC h (kG e) hf (hρ _ _ ha) (hρ _ _ hb))
  ·cases e
 ·
  rename_i ty x lo hi mx hop;rw[hop];split at e
  ·rename_i a l h' m ha hl hh hm;split at e
   ·rename_i l2 h2 m2 hl2 hh2 hm2;obtain⟨e1,rfl,rfl⟩:=qH e;exact kW.ofP h (eSlice_ok hC e1 (hρ _ _ ha) (wXF (wV8 hρ hl) hl2) (wXF (wV8 hρ hh) hh2) (wXF (wV8 hρ hm) hm2))
   ·cases e
  ·cases e
 ·
  rename_i s x f hop;rw[hop];split at e
  ·rename_i a ha;obtain⟨e1,rfl,rfl⟩:=qH e;exact kW.ofP h (wZ4 hC e1 (hρ _ _ ha))
  ·cases e
 ·
  rename_i s x f hop;rw[hop];split at e
  ·rename_i a ha;obtain⟨e1,rfl,rfl⟩:=qH e;exact kW.ofP h (eField_ok hC e1 (hρ _ _ ha))
  ·cases e
 ·
  rename_i ty x i hop;rw[hop];split at e
  ·rename_i a b ha hb;obtain⟨e1,rfl,rfl⟩:=qH e;exact kW.ofP h (wZ3 hC e1 (hρ _ _ ha) (hρ _ _ hb))
  ·cases e
 ·
  rename_i ty x i hop;rw[hop];split at e
  ·rename_i a b ha hb;obtain⟨e1,rfl,rfl⟩:=qH e;exact kW.ofP h (eIndex_ok hC e1 (hρ _ _ ha) (hρ _ _ hb))
  ·cases e
 ·
  rename_i x i hop;rw[hop];split at e
  ·rename_i vs hx;obtain⟨e1,rfl,rfl⟩:=qH e;have hb:=hρ _ _ hx;generalize hqv:ρ x=qv at hb;cases hb with
   |tup k=>obtain⟨u,hu,hr⟩:=k.get _ _ e1;exact kW.ofP h ⟨u,by simp[Instr.extract,hqv,hu],hr⟩
  ·cases e
 ·
  rename_i k hop;rw[hop];unfold yB at e;split at e
  ·cases e
  ·rename_i args hargs;split at e
   ·rename_i x hx;split at e
    ·rename_i g fs cs hfx;split at e
     ·cases e
     ·unfold eExtF at e;split at e
      ·rename_i xk hxk;have he:=kG e;have hb:=hρ _ _ hfx;generalize hqv:ρ x=qv at hb;cases hb with
       | fn k1 k2=>
        rename_i us vs;obtain⟨u,w',φ',r1,r2,r3,r4,r5⟩:=eExt_ok hC h he hf ((k1.append (x4 hρ _ _ hargs)).append k2);have harr:us.toArray++k.args.map ρ++vs.toArray=(us++k.args.toList.map ρ++vs).toArray:=by apply bU;simp
        refine⟨.value u,u,w',φ',?_,.inl rfl,r2,r3,r4,r5⟩;dsimp only;rw[xC hx hqv,pure_bind];simp only[invoke];rw[harr,hC.exts _ _ hxk,r1];rfl
      ·cases e
    ·cases e
    ·cases e
   ·rename_i b hb;dsimp only;obtain⟨cs,hcs⟩:=wGG (ρ:=ρ) hb o.type;rw[hcs,wI1];exact qED hC h e hf (x4 hρ _ _ hargs) _ _
   ·(repeat' (split at e))<;>cases e
 ·
  rename_i k hop;split at e
  ·split at e<;>cases e
  ·cases e
 ·
  rename_i ty hop;rw[hop];exact kW.ofV (qJ5 h (gB (kG e)) hf)
 ·
  rename_i ty x k ok hop;rw[hop];split at e
  ·rename_i a b ha hb;obtain⟨e1,rfl,rfl⟩:=qH e;exact kW.ofP h (eLookup_ok hC h e1 (hρ _ _ ha) (hρ _ _ hb))
  ·cases e
 ·
  rename_i ty m k x hop;rw[hop];split at e
  ·rename_i a b d ha hb hd;unfold wGC at e;split at e
   ·rename_i σ2 hst;cases e;obtain⟨w',h1,h2,h3⟩:=wKB (P:=P) hC h hst (hρ _ _ ha) (hρ _ _ hb) (hρ _ _ hd);exact⟨.skip,undef,w',φ,by simp[h1],.inr ⟨rfl,rfl⟩,.tup .nil,h2,Ext.refl _ _,h3⟩
   ·cases e
  ·cases e
 ·
  rename_i ty m k x hop;rw[hop];split at e
  ·rename_i a b d ha hb hd;unfold wGC at e;split at e
   ·rename_i σ2 hst;cases e;obtain⟨w',h1,h2,h3⟩:=wKB (P:=P) hC h hst (hρ _ _ ha) (hρ _ _ hb) (hρ _ _ hd);exact⟨.skip,undef,w',φ,by simp[h1],.inr ⟨rfl,rfl⟩,.tup .nil,h2,Ext.refl _ _,h3⟩
   ·cases e
  ·cases e
 ·
  rename_i ty x hop;rw[hop];split at e
  ·rename_i a ha;exact kW.ofV (eRange_ok hC h (kG e) hf (hρ _ _ ha))
  ·cases e
 ·
  rename_i it s hop;rw[hop];split at e
  ·rename_i a ha;split at e
   ·rename_i v2 σ2 hn;cases e;obtain⟨r,w',h1,h2,h3,h4⟩:=eNext_ok (P:=P) (ty:=o.type) h hn (hρ _ _ ha);exact⟨.value r,r,w',φ,by simp[h1],.inl rfl,h2,h3,Ext.refl _ _,h4⟩
   ·cases e
  ·cases e
 ·
  rename_i x xt ty ok hop;rw[hop];split at e
  ·rename_i a ha;obtain⟨e1,rfl,rfl⟩:=qH e;exact kW.ofP h (eAssert_ok hC e1 (hρ _ _ ha))
  ·cases e
 grind
theorem yU{C:Cx}{b:Builtin}{ts:List TypeId}{args:List AV}{r:ARes}(e:wE8 C ro σ c b ts args=some r):(∃v σ' c',r=.val v σ' c')∨(r=.rcv∧b=.recover):=by
 unfold wE8 at e;split at e
 ·unfold memR at e;split at e<;>cases e;exact .inl ⟨_,_,_,rfl⟩
 ·split at e<;>cases e;exact .inl ⟨_,_,_,rfl⟩
 ·unfold kI at e;split at e<;>cases e;exact .inl ⟨_,_,_,rfl⟩
 ·unfold kI at e;split at e<;>cases e;exact .inl ⟨_,_,_,rfl⟩
 ·unfold kI at e;split at e<;>cases e;exact .inl ⟨_,_,_,rfl⟩
 ·unfold kI at e;split at e<;>cases e;exact .inl ⟨_,_,_,rfl⟩
 ·cases e;exact .inr ⟨rfl,rfl⟩
 ·unfold kI at e;split at e<;>cases e;exact .inl ⟨_,_,_,rfl⟩
 ·split at e<;>cases e;exact .inl ⟨_,_,_,rfl⟩
 grind
theorem eMethod_ok{C:Cx}(hC:CxOk P C){name:String}{a r:AV}{f:FuncId}{x:Value}(e:qEB C name a=some (f,r))(ha:VRel φ a x) :
  ∃t u v,x=.iface t u∧VRel φ r v∧∀n,(method (n+1) t u name).run P w=.ok (f,v) w:=by
 unfold qEB at e;split at e
 case h_2=>cases e
 case h_1 t a=>
  cases ha with
  | ifc hv=>
   split at e
   case h_2=>cases e
   case h_1 i hi=>
    split at e
    case h_2=>cases e
    case h_1 m hm=>
     have hinfo:(typeInfo t).run P w=.ok i w:=by simp[typeInfo,hC.tys _ _ hi]
     split at e
     ·rename_i hp hfn hd;cases e;refine⟨_,_,_,rfl,hv,fun n=>?_⟩;unfold method;simp[hinfo,hm,hp,follow,hfn,receiverAt,wP hC hd w,Place.get,Result.andThen]
     ·cases e
     ·rename_i d hne hp hfn hd;cases e;refine⟨_,_,_,rfl,hv,fun n=>?_⟩;unfold method;cases d<;>first|(exact absurd rfl (hne _))|simp[hinfo,hm,hp,follow,hfn,receiverAt,wP hC hd w,Place.get,Result.andThen]
     grind
theorem eCall_call{C:Cx}(hC:CxOk P C){t:Tree AV}{k:Call}{ρ:Operand→Value}(hρ:wY6 φ t ρ){f:FuncId}{args:List AV}(e:yB C ro σ c t k=some (.call f args))(ty:TypeId) :
  ∃us:List Value,(do let d ←resolve ρ k ty;invoke d.target d.args:Sem Next).run P w=.ok (.enter f us.toArray) w∧LRel φ args us∧∃fn,C.fns.get f=some fn:=by
 unfold yB at e;split at e
 ·cases e
 ·rename_i as has;split at e
  ·rename_i x hx;split at e
   ·rename_i g fs cs hfx;split at e
    ·rename_i fn hfn;cases e;have hb:=hρ _ _ hfx;generalize hqv:ρ x=qv at hb;cases hb with
     | fn k1 k2=>
      rename_i us vs;refine⟨us++k.args.toList.map ρ++vs,?_,(k1.append (x4 hρ _ _ has)).append k2,fn,hfn⟩;rw[xC hx hqv,pure_bind];simp only[invoke]
      have:us.toArray++k.args.map ρ++vs.toArray=(us++k.args.toList.map ρ++vs).toArray:=by apply bU;simp
      rw[this];exact(hC.fns _ _ hfn).2 _ _
    ·obtain⟨_,_,_,hx⟩:=wBG e;cases hx
   ·cases e
   grind
  ·grind [yU]
  ·rename_i r name hx;split at e
   case h_2=>cases e
   case h_1 a ha=>
    split at e
    case h_2=>cases e
    case h_1 g v hm=>
     split at e
     case h_2=>cases e
     case h_1 fn hfn=>
      cases e;obtain⟨ty',u,vv,hu,hv,hrun⟩:=eMethod_ok (P:=P) (w:=w) hC hm (hρ _ _ ha);refine⟨vv::k.args.toList.map ρ,?_,.cons hv (x4 hρ _ _ has),fn,hfn⟩;have hres:resolve ρ k ty=pure { target:=.fn (.method name) #[],args:=#[ρ r]++k.args.map ρ }:=by simp_all [resolve]
      rw[hres,pure_bind,hu];obtain⟨A,hA⟩:∃A,A=#[Value.iface ty' u]++k.args.map ρ:=⟨_,rfl⟩
      have h0:A[0]? = some (Value.iface ty' u):=by grind
      have hsub:A.extract 1 A.size=k.args.map ρ:=by simp_all
      have hcall:=(hC.fns _ _ hfn).2 (#[vv]++k.args.map ρ) w;have hr:=hrun (P.types.size+99)
      have:#[vv]++k.args.map ρ=(vv::k.args.toList.map ρ).toArray:=by simp_all
      rw[this]at hcall;rw[←hA];simp only[invoke,h0,hsub,callMethod];rw[Sem.run_bind];simp[Made.depth,hr,this,hcall,Result.andThen]
theorem eCall_yld{C:Cx}{t:Tree AV}{k:Call}{ρ:Operand→Value}(hρ:wY6 φ t ρ){L:Nat}{args:List AV}(e:yB C ro σ c t k=some (.yld L args))(ty:TypeId) :
  ∃(B s n:Nat)(us:List Value),φ L=some (B,s,n)∧(do let d ←resolve ρ k ty;invoke d.target d.args:Sem Next)=Instr.yield B us.toArray∧LRel φ args us:=by
 unfold yB at e;split at e
 ·cases e
 ·rename_i as has;split at e
  ·rename_i x hx;split at e
   ·split at e<;>first|(cases e;done)|(obtain⟨_,_,_,hx⟩:=wBG e;cases hx)
   ·rename_i L' hfx;cases e;have hb:=hρ _ _ hfx;generalize hqv:ρ x=qv at hb;cases hb with
    |yld hφ=>refine⟨_,_,_,k.args.toList.map ρ,hφ,?_,x4 hρ _ _ has⟩;rw[xC hx hqv,pure_bind];simp only[invoke];congr 1;apply bU;simp
   ·cases e
  ·rcases yU e with⟨_,_,_,h⟩|⟨h,_⟩<;>cases h
  grind
theorem eCall_rcv{C:Cx}{t:Tree AV}{k:Call}{ρ:Operand→Value}(e:yB C ro σ c t k=some .rcv)(ty:TypeId) :
  (do let d ←resolve ρ k ty;invoke d.target d.args:Sem Next).run P w=.ok .recover w:=by
 unfold yB at e;split at e
 ·cases e
 ·split at e
  ·split at e
   ·split at e<;>first|(cases e;done)|(obtain⟨_,_,_,hx⟩:=wBG e;cases hx)
   ·cases e
   ·cases e
  ·rename_i b hb;rcases yU e with⟨_,_,_,h⟩|⟨_,hb'⟩
   ·cases h
   ·obtain⟨cs,hcs⟩:=wGG (ρ:=ρ) hb ty;rw[hcs,hb'];rfl
  grind
theorem eCall_dfr{C:Cx}{t:Tree AV}{k:Call}{f:FuncId}{caps args:List AV}:yB C ro σ c t k≠some (.dfr f caps args):=by
 intro e;unfold yB at e;split at e
 ·cases e
 grind [wBG,yU]
theorem wO8{C:Cx}{t:Tree AV}{o:Oper}{r:ARes}(e:eOp C ro σ c t o=some r) :
  (∃v σ' c',r=.val v σ' c')∨(∃k,o.op=.call k∧yB C ro σ c t k=some r) ∨
  (∃k f g fs cs args as,o.op=.defer k∧k.callee=.value f∧opd t f=some (.fn (.func g) fs cs)∧xA (opd t) k.args.toList=some args∧yB C ro σ c t k=some (.call g as)∧r=.dfr g cs (fs++args)):=by
 have hp:∀{x:Option AV},kI σ c x=some r→∃v σ' c',r=.val v σ' c':=by intro x h;unfold kI at h;grind
 have hm:∀{x:Option (AV×Hp×Nat)},memR x=some r→∃v σ' c',r=.val v σ' c':=by intro x h;unfold memR at h;grind
 have hu:∀{x:Option Hp},wGC c x=some r→∃v σ' c',r=.val v σ' c':=by intro x h;unfold wGC at h;grind
 unfold eOp at e;split at e
 case h_23 k hop=>simp_all
 case h_24 k hop=>
  split at e
  ·rename_i g0 as f hc hf;split at e
   ·rename_i g fs cs args hfx hargs;cases e;refine .inr (.inr ⟨k,f,g,fs,cs,args,as,hop,hf,hfx,hargs,?_,rfl⟩)
    have:g0=g:=by
     unfold yB at hc;rw[hargs,hf]at hc;dsimp only at hc;rw[hfx]at hc;dsimp only at hc;split at hc<;>first|cases hc|(obtain⟨_,_,_,hx⟩:=wBG hc;cases hx)
     rfl
    rw[←this];exact hc
   ·cases e
  grind
 case h_32=>cases e
 all_goals
  left;first
   |exact hp e
   |exact hm e
   |exact hu e
   |(repeat' (split at e))<;>first|exact hp e|exact hm e|exact hu e|(cases e;done)|(cases e;exact⟨_,_,_,rfl⟩)
end
inductive ADef where
 |call (f:FuncId) (caps args:List AV)
 |coll (R:Nat)
structure AFr where
 fn:FuncId
 nt:Nat
 tmps:Tree AV
 todo:List Item
 defers:List ADef
 round:Option Nat
abbrev Res:=Option (AV×Hp×Nat)
abbrev Rec:=Nat→AFr→Hp→Nat→Res
abbrev xU:=FuncId→List AV→Hp→Nat→Res
abbrev Drw:=Rec→Nat→Nat→Option Nat→Tree AV→Array Oper→Hp→Nat→Option (Tree AV×Hp×Nat)
def xE(t:Tree AV)(d:Option Tmp)(v:AV):Tree AV:=
 match d with
 |some d=>t.set d (some v)
 |none=>t
def wX4(nt:Nat):Option Tmp→Bool
 |some d=>Nat.blt d nt
 |none=>true
def argsT:Nat→List AV→Tree AV→Tree AV
 |_,[],t=>t
 |i,a::as,t=>argsT (i+1) as (t.set i (some a))
def enterF(C:Cx)(f:FuncId)(args:List AV):Option AFr:=
 match C.fns.get f with
 |none=>none
 |some fn=>match fn.body with
  |none=>none
  |some body=>bif Nat.ble args.length fn.ntmps then some { fn:=f,nt:=fn.ntmps,tmps:=argsT 0 args .lf,todo:=[.code body],defers:=[],round:=none }else none
def callF(C:Cx)(H:xU)(rec:Rec)(ro:Nat)(f:FuncId)(args:List AV)(σ:Hp)(c:Nat):Res:=
 match H f args σ c with
 |some r=>some r
 |none=>match enterF C f args with
  |some fr=>rec ro fr σ c
  |none=>none
def wSH:List Tmp→List AV→Tree AV→Option (Tree AV)
 |[],[],t=>some t
 |p::ps,a::as,t=>wSH ps as (t.set p (some a))
 |_,_,_=>none
def allLt(nt:Nat):List Tmp→Bool
 |[]=>true
 |p::ps=>bif Nat.blt p nt then allLt nt ps else false
def qCI(rec:Rec)(ro:Nat)(L:Nat)(args:List AV)(σ:Hp)(c:Nat):Res:=
 bif Nat.ble ro L then
  match σ.get L with
  | some (.loop l)=>match l.st with
   | .ready=>bif allLt l.nt l.params then
     match wSH l.params args l.tmps with
     |some t=>rec ro { fn:=l.fn,nt:=l.nt,tmps:=t,todo:=[.code l.assign,.beginRound,.code l.body],defers:=[],round:=some L } σ c
     |none=>none
    else none
   |_=>none
  |_=>none
 else none
def xV(ops:Array Oper)(t:Tree AV)(o:Oper):Bool:=
 match o.guard with
 |none=>true
 | some (j,want)=>match ops[j]? with
  |none=>false
  | some q=>match q.dst with
   |none=>false
   |some d=>match t.get d with
    |some (.bool b)=>b==want
    |_=>false
def opAt(C:Cx)(H:xU)(rec:Rec)(ro nt:Nat)(round:Option Nat)(t:Tree AV)(ops:Array Oper)(i:Nat)(σ:Hp)(c:Nat):Option (Tree AV×List ADef×Hp×Nat):=
 match ops[i]? with
 |none=>none
 | some o=>bif wX4 nt o.dst then
   bif xV ops t o then
    match eOp C ro σ c t o with
    |some (.val v σ' c')=>some (xE t o.dst v,[],σ',c')
    |some (.call f args)=>match callF C H rec ro f args σ c with
     |some (v,σ',c')=>some (xE t o.dst v,[],σ',c')
     |none=>none
    |some (.yld L args)=>match qCI rec ro L args σ c with
     |some (v,σ',c')=>some (xE t o.dst v,[],σ',c')
     |none=>none
    |some .rcv=>match round with
     |none=>some (xE t o.dst .nili,[],σ,c)
     |some _=>none
    |some (.dfr f caps args)=>match round with
     |none=>some (xE t o.dst (.tup []),[.call f caps args],σ,c)
     |some _=>none
    |none=>none
   else some (xE t o.dst (.tup []),[],σ,c)
  else none
def wD4(C:Cx)(σ:Hp)(t:Tree AV):ResultVar→Option AV
 |.tmp d=>some (match t.get d with|some v=>v|none=>.tup [])
 |.cell a ty=>match t.get a with
  |some p=>eLoad C σ ty p
  |none=>none
def resF(C:Cx)(f:FuncId)(σ:Hp)(t:Tree AV):Option AV:=
 match C.fns.get f with
 |none=>none
 |some fn=>match xA (wD4 C σ t) fn.results.toList with
  |none=>none
  |some [v]=>some v
  |some vs=>some (.tup vs)
def unw(C:Cx)(H:xU)(rec:Rec)(ro:Nat)(f:FuncId)(t:Tree AV):List ADef→Hp→Nat→Res
 |[],σ,c=>match resF C f σ t with
  |some v=>some (v,σ,c)
  |none=>none
 | .coll R::ds,σ,c=>bif Nat.ble ro R then
   match σ.get R with
   |some .dfr=>unw C H rec ro f t ds (σ.set R none) c
   |_=>none
  else none
 | .call g caps args::ds,σ,c=>match C.fns.get g with
  |none=>none
  | some _=>match enterF C g (args++caps)with
   |none=>none
   |some fr=>match rec ro fr σ c with
    |some (_,σ',c')=>unw C H rec ro f t ds σ' c'
    |none=>none
def wL8(C:Cx)(H:xU)(rec:Rec)(ro:Nat)(fr:AFr)(σ:Hp)(c:Nat)(jump:Option Code):Res:=
 match fr.round with
 | some L=>bif Nat.ble ro L then
   match σ.get L with
   |some (.loop l)=>some (.bool jump.isNone,σ.set L (some (.loop { l with st:=if jump.isNone then .ready else .done,pend:=jump })),c)
   |_=>none
  else none
 |none=>match jump with
  |none=>unw C H rec ro fr.fn fr.tmps fr.defers σ c
  |some .ret=>unw C H rec ro fr.fn fr.tmps fr.defers σ c
  |_=>none
def loopIn(fr:AFr)(params:Array Tmp)(assign body:Code)(σ:Hp)(c:Nat):Option (Nat×List ADef×Hp×Nat):=
 match fr.round with
 |none=>some (c+1,[.coll c],(σ.set c (some .dfr)).set (c+1) (some (.loop { st:=.ready,pend:=none,fn:=fr.fn,nt:=fr.nt,tmps:=fr.tmps,params:=params.toList,assign:=assign,body:=body,dblk:=c })),c+2)
 |some L=>match σ.get L with
  |some (.loop l)=>some (c,[],σ.set c (some (.loop { st:=.ready,pend:=none,fn:=fr.fn,nt:=fr.nt,tmps:=fr.tmps,params:=params.toList,assign:=assign,body:=body,dblk:=l.dblk })),c+1)
  |_=>none
def qE8(C:Cx)(H:xU)(D:Drw)(rec:Rec):Rec:=fun ro fr σ c=>
 match fr.todo with
 |[]=>wL8 C H rec ro fr σ c none
 | .code cd::k=>match cd with
  |.skip=>rec ro { fr with todo:=k } σ c
  |.label _=>rec ro { fr with todo:=k } σ c
  |.seq a b=>rec ro { fr with todo:=.code a::.code b::k } σ c
  |.cond q a b=>match opd fr.tmps q with
   |some (.bool true)=>rec ro { fr with todo:=.code a::k } σ c
   |some (.bool false)=>rec ro { fr with todo:=.code b::k } σ c
   |_=>none
  |.block id b=>rec ro { fr with todo:=.code b::.inBlock id::k } σ c
  |.loop b=>rec ro { fr with todo:=.code b::.inLoop b::k } σ c
  |.scope b=>rec ro { fr with todo:=.code b::.inScope b::k } σ c
  |.exit id=>match exitTo id k with
   |some k'=>rec ro { fr with todo:=k' } σ c
   |none=>wL8 C H rec ro fr σ c (some (.exit id))
  |.goto l=>match gotoIn l k with
   |some k'=>rec ro { fr with todo:=k' } σ c
   |none=>wL8 C H rec ro fr σ c (some (.goto l))
  |.ret=>wL8 C H rec ro fr σ c (some .ret)
  | .region _ ops draw=>match draw with
   |false=>rec ro { fr with todo:=.inRegion ops (List.range ops.size)::k } σ c
   |true=>match D rec ro fr.nt fr.round fr.tmps ops σ c with
    |some (t,σ',c')=>rec ro { fr with tmps:=t,todo:=k } σ' c'
    |none=>none
  | .rangeFunc f params assign body=>match opd fr.tmps f with
   | some (.fn (.func g) fs cs)=>match C.fns.get g with
    |none=>none
    | some _=>match loopIn fr params assign body σ c with
     |none=>none
     | some (L,ds,σ1,c1)=>match callF C H rec ro g (fs++[.yld L]++cs) σ1 c1 with
      |none=>none
      | some (_,σ2,c2)=>match σ2.get L with
       | some (.loop l)=>bif Nat.ble ro L then
         match l.st with
         |.busy=>none
         |_=>rec ro { fr with todo:=(match l.pend with|some j=>.code j::k|none=>k),defers:=ds++fr.defers } (σ2.set L none) c2
        else none
       |_=>none
   |_=>none
  |.refuse _=>none
 |.inBlock _::k=>rec ro { fr with todo:=k } σ c
 |.inScope _::k=>rec ro { fr with todo:=k } σ c
 |.inLoop b::k=>rec ro { fr with todo:=.code b::.inLoop b::k } σ c
 |.inRegion _ []::k=>rec ro { fr with todo:=k } σ c
 |.inRegion ops (i::is)::k=>match opAt C H rec ro fr.nt fr.round fr.tmps ops i σ c with
  |some (t,ds,σ',c')=>rec ro { fr with tmps:=t,todo:=.inRegion ops is::k,defers:=ds++fr.defers } σ' c'
  |none=>none
 | .beginRound::k=>match fr.round with
  | some L=>bif Nat.ble ro L then
    match σ.get L with
    |some (.loop l)=>match l.st with
     |.ready=>rec ro { fr with todo:=k } (σ.set L (some (.loop { l with st:=.busy }))) c
     |_=>none
    |_=>none
   else none
  |none=>none
 |_=>none
def ev(C:Cx)(H:xU)(D:Drw)(n:Nat):Rec:=Nat.rec (motive:=fun _=>Rec) (fun _ _ _ _=>none) (fun _ ih=>qE8 C H D ih) n
theorem ev_zero(C:Cx)(H:xU)(D:Drw)(ro:Nat)(fr:AFr)(σ:Hp)(c:Nat):ev C H D 0 ro fr σ c=none:=rfl
theorem ev_succ(C:Cx)(H:xU)(D:Drw)(n:Nat):ev C H D (n+1)=qE8 C H D (ev C H D n):=rfl
section
variable{P:Program}
inductive DRel(φ:Ren):List ADef→List Deferred→Prop
 |nil:DRel φ [] []
 | call {f:FuncId} {caps args:List AV} {us vs:List Value} {ds:List ADef} {es:List Deferred} (h:LRel φ caps us) (k:LRel φ args vs) (t:DRel φ ds es) :
   DRel φ (.call f caps args::ds) ({ target:=.fn (.func f) us.toArray,args:=vs.toArray }::es)
 |coll {R B s n:Nat} {ds:List ADef} {es:List Deferred} (h:φ R=some (B,s,n)) (t:DRel φ ds es):DRel φ (.coll R::ds) ({ target:=.collected B,args:=#[] }::es)
theorem DRel.mono{φ ψ:Ren}(hl:φ.le ψ):∀{a:List ADef}{b:List Deferred},DRel φ a b→DRel ψ a b
 |_,_,.nil=>.nil
 |_,_,.call h k t=>.call (h.mono hl) (k.mono hl) (t.mono hl)
 |_,_,.coll h t=>.coll (hl _ _ h) (t.mono hl)
theorem DRel.append{φ:Ren}:∀{a a':List ADef}{b b':List Deferred},DRel φ a b→DRel φ a' b'→DRel φ (a++a') (b++b')
 |_,_,_,_,.nil,h=>h
 |_,_,_,_,.call h k t,h'=>.call h k (t.append h')
 |_,_,_,_,.coll h t,h'=>.coll h (t.append h')
def y9(φ:Ren):Option Nat→Option Nat→Prop
 |none,r=>r=none
 |some L,r=>∃B s n,φ L=some (B,s,n)∧r=some B
structure FRel(φ:Ren)(af:AFr)(fr:Frame):Prop where
 fn:fr.fn=af.fn
 mode:fr.mode=.run
 todo:fr.todo=af.todo
 tmps:xT φ af.nt af.tmps fr.tmps
 defers:DRel φ af.defers fr.defers
 round:y9 φ af.round fr.roundOf
def Calm(fr:Frame)(cs:List Frame):Prop:=fr.kind=.normal∨(fr.kind=.deferred∧∃cl rest,cs=cl::rest∧cl.mode=.returning)
structure Done(P:Program)(fr fr':Frame)(w':World)(u:Value):Prop where
 fn:fr'.fn=fr.fn
 mode:fr'.mode=.returning
 defers:fr'.defers=[]
 kind:fr'.kind=fr.kind
 res:∃fn,P.funcs[fr.fn]? = some fn∧(results fn fr'.tmps).run P w'=.ok u w'
def FrEnd(P:Program)(fr:Frame)(cs:List Frame)(w w':World)(u:Value):Option Nat→Prop
 |none=>∃fr',Steps P (lone fr cs w) (lone fr' cs w')∧Done P fr fr' w' u
 |some _=>∀cl rest,cs=cl::rest→Steps P (lone fr cs w) (lone (cl.finish u) rest w')
def wC4(P:Program)(ro n0 c:Nat)(φ:Ren)(fr:Frame)(cs:List Frame)(w:World)(r:Option Nat)(v:AV)(σ':Hp)(c':Nat):Prop:=
 ∃w' φ' u,FrEnd P fr cs w w' u r∧VRel φ' v u∧SRel ro n0 φ' σ' w'∧Ext c c' φ φ'∧Below n0 w w'
def KB(c:Nat)(σ:Hp):Prop:=∀A,(σ.get A).isSome=true→A<c
structure Grow(c:Nat)(σ:Hp)(c':Nat)(σ':Hp):Prop where
 le:c≤c'
 kb:KB c σ→KB c' σ'
theorem Grow.refl(c:Nat)(σ:Hp):Grow c σ c σ:=⟨pC _,fun h=>h⟩
theorem Grow.trans{a b c:Nat}{σ τ υ:Hp}(h:Grow a σ b τ)(k:Grow b τ c υ):Grow a σ c υ:=⟨pD h.le k.le,fun q=>k.kb (h.kb q)⟩
theorem Grow.alloc(c:Nat)(σ:Hp)(b:ABlk):Grow c σ (c+1) (σ.set c (some b)):=⟨by omega,fun h A hA=>by
 rw[Tree.get_set]at hA;by_cases hc:A=c
 ·omega
 ·rw[if_neg hc]at hA;have:=h A hA;omega⟩
theorem Grow.put{c:Nat}{σ:Hp}{A:Nat}(b:ABlk)(hA:(σ.get A).isSome=true):Grow c σ c (σ.set A (some b)):=⟨pC _,fun h B hB=>by
 rw[Tree.get_set]at hB;by_cases hc:B=A
 ·subst hc;exact h B hA
 ·rw[if_neg hc]at hB;exact h B hB⟩
theorem Grow.kill(c:Nat)(σ:Hp)(A:Nat):Grow c σ c (σ.set A none):=⟨pC _,fun h B hB=>by
 rw[Tree.get_set]at hB;by_cases hc:B=A
 ·simp_all
 ·rw[if_neg hc]at hB;exact h B hB⟩
theorem wEG{ro c A off:Nat}{σ σ':Hp}{vs:List AV}(e:wA8 ro σ A off vs=some σ'):Grow c σ c σ':=by
 unfold wA8 at e;simp only[cond_eq_ite]at e;split at e
 ·split at e
  ·rename_i cs hA;split at e
   ·split at e
    ·cases e;exact .put _ (by rw[hA];rfl)
    ·cases e
   ·cases e
  ·cases e
 grind
def wH2(P:Program)(rec:Rec):Prop:=
 ∀ro af σ c v σ' c',rec ro af σ c=some (v,σ',c')→Grow c σ c' σ' ∧
  ∀n0 φ w fr cs,KB c σ→FRel φ af fr→SRel ro n0 φ σ w→vZ c c' φ→Calm fr cs→(af.round≠none→fr.kind=.normal)→wC4 P ro n0 c φ fr cs w af.round v σ' c'
def wT9(P:Program)(ro n0 c:Nat)(φ:Ren)(w:World)(f:FuncId)(us:List Value)(v:AV)(σ':Hp)(c':Nat):Prop:=
 ∀cs,∃w' φ' u fr',Steps P (lone (Frame.enter P f us.toArray .normal) cs w) (lone fr' cs w')∧Done P (Frame.enter P f us.toArray .normal) fr' w' u∧VRel φ' v u∧SRel ro n0 φ' σ' w'∧Ext c c' φ φ'∧Below n0 w w'
def wA6(P:Program)(H:xU):Prop:=
 ∀f args σ c v σ' c',H f args σ c=some (v,σ',c')→Grow c σ c' σ'∧∀ro n0 φ w us,KB c σ→SRel ro n0 φ σ w→vZ c c' φ→LRel φ args us→wT9 P ro n0 c φ w f us v σ' c'
def DrwOk(P:Program)(D:Drw):Prop:=
 ∀ rec,wH2 P rec→∀ro nt round t ops σ c t' σ' c',D rec ro nt round t ops σ c=some (t',σ',c')→Grow c σ c' σ' ∧
  ∀n0 φ w (fr:Frame) cs id k,KB c σ→fr.mode=.run→fr.todo=.code (.region id ops true)::k→xT φ nt t fr.tmps→y9 φ round fr.roundOf→Calm fr cs→SRel ro n0 φ σ w→vZ c c' φ→
   ∃tmps w' φ',Steps P (lone fr cs w) (lone { fr with tmps:=tmps,todo:=k } cs w')∧xT φ' nt t' tmps∧SRel ro n0 φ' σ' w'∧Ext c c' φ φ'∧Below n0 w w'
end
section
variable{P:Program}{fr:Frame}{cs:List Frame}{w:World}{k:List Item}
theorem st_skip(hm:fr.mode=.run)(ht:fr.todo=.code .skip::k):step P (lone fr cs w)=.next (lone { fr with todo:=k } cs w):=
 step_lone_go (by simp_all [stepG,stepG.exec])
theorem st_label{l:Nat}(hm:fr.mode=.run)(ht:fr.todo=.code (.label l)::k):step P (lone fr cs w)=.next (lone { fr with todo:=k } cs w):=
 step_lone_go (by simp_all [stepG,stepG.exec])
theorem st_inBlock{id:Nat}(hm:fr.mode=.run)(ht:fr.todo=.inBlock id::k):step P (lone fr cs w)=.next (lone { fr with todo:=k } cs w):=
 step_lone_go (by simp_all [stepG,stepG.exec])
theorem st_inScope{b:Code}(hm:fr.mode=.run)(ht:fr.todo=.inScope b::k):step P (lone fr cs w)=.next (lone { fr with todo:=k } cs w):=
 step_lone_go (by simp_all [stepG,stepG.exec])
theorem st_seq{a b:Code}(hm:fr.mode=.run)(ht:fr.todo=.code (.seq a b)::k):step P (lone fr cs w)=.next (lone { fr with todo:=.code a::.code b::k } cs w):=
 step_lone_go (by simp_all [stepG,stepG.exec])
theorem st_cond{q:Operand}{a b:Code}{t:Bool}(hm:fr.mode=.run)(ht:fr.todo=.code (.cond q a b)::k)(hq:fr.eval q=.bool t) :
  step P (lone fr cs w)=.next (lone { fr with todo:=.code (if t then a else b)::k } cs w):=
 step_lone_go (by simp_all [stepG,stepG.exec])
theorem st_block{id:Nat}{b:Code}(hm:fr.mode=.run)(ht:fr.todo=.code (.block id b)::k):step P (lone fr cs w)=.next (lone { fr with todo:=.code b::.inBlock id::k } cs w):=
 step_lone_go (by simp_all [stepG,stepG.exec])
theorem st_loop{b:Code}(hm:fr.mode=.run)(ht:fr.todo=.code (.loop b)::k):step P (lone fr cs w)=.next (lone { fr with todo:=.code b::.inLoop b::k } cs w):=
 step_lone_go (by simp_all [stepG,stepG.exec])
theorem st_inLoop{b:Code}(hm:fr.mode=.run)(ht:fr.todo=.inLoop b::k):step P (lone fr cs w)=.next (lone { fr with todo:=.code b::.inLoop b::k } cs w):=
 step_lone_go (by simp_all [stepG,stepG.exec])
theorem st_scope{b:Code}(hm:fr.mode=.run)(ht:fr.todo=.code (.scope b)::k):step P (lone fr cs w)=.next (lone { fr with todo:=.code b::.inScope b::k } cs w):=
 step_lone_go (by simp_all [stepG,stepG.exec])
theorem st_exit{id:Nat}{k':List Item}(hm:fr.mode=.run)(ht:fr.todo=.code (.exit id)::k)(he:exitTo id k=some k'):step P (lone fr cs w)=.next (lone { fr with todo:=k' } cs w):=
 step_lone_go (by simp_all [stepG,stepG.exec])
theorem st_goto{l:Nat}{k':List Item}(hm:fr.mode=.run)(ht:fr.todo=.code (.goto l)::k)(he:gotoIn l k=some k'):step P (lone fr cs w)=.next (lone { fr with todo:=k' } cs w):=
 step_lone_go (by simp_all [stepG,stepG.exec])
theorem st_region{id:Nat}{ops:Array Oper}(hm:fr.mode=.run)(ht:fr.todo=.code (.region id ops false)::k) :
  step P (lone fr cs w)=.next (lone { fr with todo:=.inRegion ops (List.range ops.size)::k } cs w):=
 step_lone_go (by simp_all [stepG,stepG.exec])
theorem st_draw{id:Nat}{ops:Array Oper}(hm:fr.mode=.run)(ht:fr.todo=.code (.region id ops true)::k) :
  step P (lone fr cs w)=.next (lone { fr with todo:=.inRegion ops (Region.schedule (P.follows .mixedOrders) ops (w.tape w.drawn (.order fr.fn id)))::k } cs w.drew):=
 step_lone_go (by simp[stepG,stepG.exec,hm,ht,choose,Sem.run,Question.forced,Question.cut])
theorem wMG{ops:Array Oper}(hm:fr.mode=.run)(ht:fr.todo=.inRegion ops []::k):step P (lone fr cs w)=.next (lone { fr with todo:=k } cs w):=
 step_lone_go (by simp_all [stepG,stepG.exec])
theorem qC6(hm:fr.mode=.run)(hr:fr.roundOf=none)(ht:fr.todo=.code .ret::k):step P (lone fr cs w)=.next (lone { fr with mode:=.returning } cs w):=
 step_lone_go (by simp_all [stepG,stepG.exec])
theorem qC7(hm:fr.mode=.run)(hr:fr.roundOf=none)(ht:fr.todo=[]):step P (lone fr cs w)=.next (lone { fr with mode:=.returning } cs w):=
 step_lone_go (by simp_all [stepG,stepG.exec])
section
variable{ops:Array Oper}{i:Nat}{rest:List Nat}{o:Oper}
theorem wP6(hm:fr.mode=.run)(ht:fr.todo=.inRegion ops (i::rest)::k)(ho:ops[i]? = some o)(hw:Region.wanted o (yielded ops fr.tmps)=true)(hd:fr.roundOf=none∨∀q,o.op≠.defer q) :
  stepG P true { frame:=fr,callers:=cs,status:=.running,dying:=none } w=stepG.apply P true fr cs none (execOp fr.eval o) w:=by
 rcases hd with hd|hd
 ·simp_all [stepG,stepG.exec,stepG.oper,Frame.oper?]
 ·cases hr:fr.roundOf with
  |none=>simp_all [stepG,stepG.exec,stepG.oper,Frame.oper?]
  |some l=>obtain⟨dst,op,ty,pos,after,guard⟩:=o;cases op<;>first|(exact absurd rfl (hd _))|(simp[stepG,stepG.exec,stepG.oper,Frame.oper?,hm,ht,ho,hw,hr])
def _root_.Go.Ev.putC(tmps:Array Value)(d:Option Tmp)(u:Value):Array Value:=
 match d with
 |some d=>tmps.setIfInBounds d u
 |none=>tmps
theorem wQ7(ht:fr.todo=.inRegion ops (i::rest)::k)(ho:ops[i]? = some o)(v:Value) :
  fr.finish v={ fr with tmps:=putC fr.tmps o.dst v,todo:=.inRegion ops rest::k }:=by
 grind [Frame.finish,putC]
theorem wR0(hm:fr.mode=.run)(ht:fr.todo=.inRegion ops (i::rest)::k)(ho:ops[i]? = some o)(hw:Region.wanted o (yielded ops fr.tmps)=false) :
  step P (lone fr cs w)=.next (lone (fr.finish undef) cs w):=
 step_lone_go (by simp_all [stepG,stepG.exec])
variable(hm:fr.mode=.run)(ht:fr.todo=.inRegion ops (i::rest)::k)(ho:ops[i]? = some o)(hw:Region.wanted o (yielded ops fr.tmps)=true)(hd:fr.roundOf=none∨∀q,o.op≠.defer q)
include hm ht ho hw hd
theorem st_value{u:Value}{w':World}(hr:(execOp fr.eval o).run P w=.ok (.value u) w'):step P (lone fr cs w)=.next (lone (fr.finish u) cs w'):=
 step_lone_go (by rw[wP6 hm ht ho hw hd];simp[stepG.apply,hr])
theorem st_unit{w':World}(hr:(execOp fr.eval o).run P w=.ok .skip w'):step P (lone fr cs w)=.next (lone (fr.finish undef) cs w'):=
 step_lone_go (by rw[wP6 hm ht ho hw hd];simp[stepG.apply,hr])
theorem st_enter{f:FuncId}{args:Array Value}{w':World}(hr:(execOp fr.eval o).run P w=.ok (.enter f args) w'):step P (lone fr cs w)=.next (lone (Frame.enter P f args .normal) (fr::cs) w'):=
 step_lone_go (by rw[wP6 hm ht ho hw hd];simp_all [stepG.apply])
theorem st_round{l f:Nat}{tmps:Array Value}{a b:Code}{w':World}(hr:(execOp fr.eval o).run P w=.ok (.round l f tmps a b) w'):step P (lone fr cs w)=.next (lone (Frame.round l f tmps a b .normal) (fr::cs) w'):=
 step_lone_go (by rw[wP6 hm ht ho hw hd];simp[stepG.apply,hr])
theorem st_defer{d:Deferred}{w':World}(hr:(execOp fr.eval o).run P w=.ok (.defer d) w'):step P (lone fr cs w)=.next (lone ({ fr with defers:=d::fr.defers }.finish undef) cs w'):=
 step_lone_go (by rw[wP6 hm ht ho hw hd];simp[stepG.apply,hr])
theorem st_recover{w':World}(hro:fr.roundOf=none)(hc:Calm fr cs)(hr:(execOp fr.eval o).run P w=.ok .recover w'):step P (lone fr cs w)=.next (lone (fr.finish .nilIface) cs w'):=by
 have htr:tryRecover fr cs=none:=by
  rcases hc with hk|⟨hk,cl,rest,rfl,hcl⟩
  ·simp[tryRecover,hk]
  simp_all [tryRecover]
 exact step_lone_go (by rw[wP6 hm ht ho hw hd];simp_all [stepG.apply])
end
theorem wY9{B:Nat}{w':World}(hm:fr.mode=.run)(ht:fr.todo=.beginRound::k)(hr:fr.roundOf=some B)(h:(Instr.beginRound B).run P w=.ok () w') :
  step P (lone fr cs w)=.next (lone { fr with todo:=k } cs w'):=
 step_lone_go (by simp_all [stepG,stepG.exec,Option.elim,stepG.apply,Frame.finish])
theorem qG0{B:Nat}{jump:Option Code}{u:Value}{w':World}{cl:Frame}(hm:fr.mode=.run)(hr:fr.roundOf=some B)(hk:fr.kind=.normal)(ht:(fr.todo=[]∧jump=none)∨(fr.todo=.code .ret::k∧jump=some .ret)∨(∃id,fr.todo=.code (.exit id)::k∧exitTo id k=none∧jump=some (.exit id))∨(∃l,fr.todo=.code (.goto l)::k∧gotoIn l k=none∧jump=some (.goto l)))(h:(Instr.endRound B jump).run P w=.ok u w'):step P (lone fr (cl::cs) w)=.next (lone (cl.finish u) cs w'):=by
 refine step_lone_go ?_;rcases ht with⟨ht,rfl⟩|⟨ht,rfl⟩|⟨id,ht,he,rfl⟩|⟨l,ht,he,rfl⟩
 ·simp[stepG,stepG.exec,hm,ht,hr,h,doReturn,hk]
 ·simp[stepG,stepG.exec,hm,ht,hr,h,doReturn,hk]
 ·simp[stepG,stepG.exec,hm,ht,hr,h,doReturn,hk,he]
 simp_all [stepG,stepG.exec,doReturn]
theorem qC5{f:Operand}{params:Array Tmp}{assign body:Code}{l:Nat}{mark:List Deferred}{w1 w2:World}{g:FuncId}{args:Array Value}(hm:fr.mode=.run)(ht:fr.todo=.code (.rangeFunc f params assign body)::k)(h:(Instr.enterLoop fr.fn fr.tmps params assign body fr.roundOf).run P w=.ok (l,mark) w1)(hc:∀fr':Frame,fr'.tmps=fr.tmps→(do let d ←resolve fr'.eval { callee:=.value f,args:=#[.const (.func (.yield l) #[] #[])],argTypes:=#[] } 0;invoke d.target d.args:Sem Next).run P w1=.ok (.enter g args) w2) :
  step P (lone fr cs w)=.next (lone (Frame.enter P g args .normal) ({ fr with todo:=.inRangeFunc l::k,defers:=mark++fr.defers }::cs) w2):=by
 obtain⟨fn,tmps,todo,defers,mode,kind,roundOf⟩:=fr;dsimp only at hm ht h;subst hm;subst ht;have hc':=hc { fn:=fn,tmps:=tmps,todo:=.inRangeFunc l::k,defers:=mark++defers,mode:=.run,kind:=kind,roundOf:=roundOf } rfl;refine step_lone_go ?_;simp only[stepG,stepG.exec,Sem.runT_eq,h,GStep.bare_after]
 simp_all [stepG.apply,Sem.runT_eq,if_true,GStep.bare_after]
theorem wSB{l:Nat}{jump:Option Code}{w':World}(hm:fr.mode=.run)(ht:fr.todo=.endRangeFunc l::k)(h:(Instr.endLoop l).run P w=.ok jump w') :
  step P (lone fr cs w)=.next (lone { fr with todo:=(jump.map Item.code).toList++k } cs w'):=
 step_lone_go (by simp_all [stepG,stepG.exec])
theorem qC8{B:Nat}{args:Array Value}{ds calls:List Deferred}{w':World}(hm:fr.mode=.returning)(hd:fr.defers={ target:=.collected B,args:=args }::ds)(h:(Instr.takeDeferred B).run P w=.ok calls w') :
  step P (lone fr cs w)=.next (lone { fr with defers:=calls++ds } cs w'):=
 step_lone_go (by simp_all [stepG,unwind])
theorem qG1{f:FuncId}{caps args:Array Value}{ds:List Deferred}(hm:fr.mode=.returning)(hd:fr.defers={ target:=.fn (.func f) caps,args:=args }::ds)
  (h:(callFunc f (args++caps)).run P w=.ok (.enter f (args++caps)) w) :
  step P (lone fr cs w)=.next (lone (Frame.enter P f (args++caps) .deferred) ({ fr with defers:=ds }::cs) w):=
 step_lone_go (by simp_all [stepG,unwind,callDeferred,invoke])
theorem wR1{fr' cl:Frame}{u:Value}(h:Done P fr fr' w u)(hk:fr.kind=.normal):step P (lone fr' (cl::cs) w)=.next (lone (cl.finish u) cs w):=by obtain⟨fn,hf,hr⟩:=h.res;exact step_lone_go (by simp[stepG,unwind,doReturn,h.mode,h.defers,h.kind,hk,h.fn,hf,hr])
theorem qC4{fr' cl:Frame}{u:Value}(h:Done P fr fr' w u)(hk:fr.kind=.deferred)(hcl:cl.mode=.returning):step P (lone fr' (cl::cs) w)=.next (lone cl cs w):=by obtain⟨fn,hf,hr⟩:=h.res;exact step_lone_go (by simp[stepG,unwind,doReturn,h.mode,h.defers,h.kind,hk,h.fn,hf,hr,hcl])
end
section
variable{P:Program}{C:Cx}{ro n0 c:Nat}{φ:Ren}{σ:Hp}{w:World}
theorem xT.set{nt:Nat}{t:Tree AV}{tmps:Array Value}(h:xT φ nt t tmps){d:Nat}(hd:d<nt){v:AV}{u:Value}(hv:VRel φ v u):xT φ nt (t.set d (some v)) (tmps.setIfInBounds d u):=by
 refine⟨by rw[Array.size_setIfInBounds];exact h.1,fun e=>?_⟩;rw[Tree.get_set];by_cases he:e=d
 ·subst he;rw[if_pos rfl]
  have:(tmps.setIfInBounds e u).getD e (.tuple #[])=u:=by have:=h.1;simp[Array.getD,this,hd]
  grind
 ·rw[if_neg he]
  have:(tmps.setIfInBounds d u).getD e (.tuple #[])=tmps.getD e (.tuple #[]):=by simp_all [Array.getD_eq_getD_getElem?,Array.getElem?_setIfInBounds_ne,Ne.symm]
  rw[this];exact h.2 e
theorem xT.put{nt:Nat}{t:Tree AV}{tmps:Array Value}(h:xT φ nt t tmps){d:Option Tmp}(hd:wX4 nt d=true){v:AV}{u:Value}(hv:VRel φ v u) :
  xT φ nt (xE t d v) (putC tmps d u):=by
 cases d with
 |none=>exact h
 |some d=>exact h.set (by simp_all [wX4]) hv
theorem qB8:∀(as:List AV)(i:Nat)(t:Tree AV)(d:Nat),(argsT i as t).get d=if i≤d∧d<i+as.length then as[d-i]? else t.get d
 |[],i,t,d=>by simp_all [argsT,List.length_nil,Nat.add_zero,if_neg]
 |a::as,i,t,d=>by
  simp only[argsT];rw[qB8 as (i+1),Tree.get_set]
  grind
theorem enterF_rel(hC:CxOk P C){f:FuncId}{args:List AV}{af:AFr}(e:enterF C f args=some af){us:List Value}(h:LRel φ args us)(kind:CallKind) :
  FRel φ af (Frame.enter P f us.toArray kind)∧af.round=none∧af.fn=f:=by
 unfold enterF at e;split at e
 ·cases e
 ·rename_i fn hfn;split at e
  ·cases e
  ·rename_i body hb;cases hle:Nat.ble args.length fn.ntmps with
   |false=>simp_all
   | true=>
    rw[hle]at e;cases e;have hle':=pI hle;have hf:=(hC.fns _ _ hfn).1;have hl:=h.length;refine⟨⟨rfl,rfl,by simp_all [Frame.enter],⟨?_,fun d=>?_⟩,.nil,rfl⟩,rfl,rfl⟩
    ·simp_all [Frame.enter]
    ·have ht:(Frame.enter P f us.toArray kind).tmps=us.toArray++Array.replicate (fn.ntmps-us.length) undef:=by simp[Frame.enter,hf]
     rw[ht,qB8];simp only[Nat.zero_le,true_and,Nat.zero_add,Nat.sub_zero,Tree.get_lf];rw[mU];by_cases hd:d<args.length
     ·rw[if_pos hd,pK hd];obtain⟨u,hu,hr⟩:=h.get d _ (pK hd)
      grind
     ·rw[if_neg hd]
      have:((us.toArray++Array.replicate (fn.ntmps-us.length) undef)[d]?).getD (.tuple #[])=.tuple #[]:=by rw[Array.getElem?_append_right (by grind),Array.getElem?_replicate];split<;>rfl
      rw[this];exact .tup .nil
theorem qEF{ts:List TypeId}{s x v:AV}{σ':Hp}{c':Nat}(e:wOA C ro σ c ts s x=some (v,σ',c')):Grow c σ c' σ':=by
 unfold wOA at e;simp only[cond_eq_ite]at e
 repeat' (split at e)
 all_goals first
  |(cases e;done)
  |(cases e;exact Grow.refl _ _)
  |(cases e;exact Grow.alloc _ _ _)
  |(cases e;exact(Grow.kill _ _ _).trans (Grow.alloc _ _ _))
  |grind [wEG]
theorem wGJ{t:TypeId}{m k v:AV}{σ':Hp}(e:yQ C ro σ t m k v=some σ'):Grow c σ c σ':=by
 unfold yQ at e;simp only[cond_eq_ite]at e
 grind [Grow.put]
theorem eNext_grow{it v:AV}{b:Bool}{σ':Hp}(e:eNext ro σ it b=some (v,σ')):Grow c σ c σ':=by
 unfold eNext at e;simp only[cond_eq_ite]at e
 grind [Grow.refl,Grow.put]
theorem eOp_grow{t:Tree AV}{o:Oper}{v:AV}{σ':Hp}{c':Nat}(e:eOp C ro σ c t o=some (.val v σ' c')):Grow c σ c' σ':=by
 have hp:∀{x:Option AV},kI σ c x=some (.val v σ' c')→Grow c σ c' σ':=fun h=>by obtain⟨_,rfl,rfl⟩:=qH h;exact Grow.refl _ _
 unfold eOp at e;split at e
 case h_4=>
  have e:=kG e
  grind [qEG,Grow.alloc]
 case h_5=>
  split at e
  ·have e:=kG e;cases e;exact Grow.alloc _ _ _
  grind
 case h_7=>
  split at e
  ·have e:=kG e;unfold wCI at e;simp only[cond_eq_ite]at e
   (repeat' (split at e))<;>first|(cases e;done)|(cases e;exact Grow.alloc _ _ _)
  grind
 case h_9=>
  split at e
  ·unfold wGC at e;split at e
   ·rename_i hs;cases e;unfold wIB at hs;simp only[cond_eq_ite]at hs
    (repeat' (split at hs))<;>first|(cases hs;done)|exact wEG hs
   ·cases e
  grind
 case h_16=>
  split at e
  ·have e:=kG e;unfold eMake at e;simp only[cond_eq_ite]at e
   (repeat' (split at e))<;>first|(cases e;done)|(cases e;exact Grow.alloc _ _ _)
  grind
 case h_23=>
  unfold yB at e;split at e
  ·cases e
  ·split at e
   ·split at e
    ·split at e
     ·cases e
     ·unfold eExtF at e;split at e
      ·have e:=kG e;unfold eExt at e;simp only[cond_eq_ite]at e
       (repeat' (split at e))<;>first|(cases e;done)|(cases e;exact Grow.refl _ _)|(cases e;exact Grow.alloc _ _ _)
      ·cases e
    ·cases e
    ·cases e
   ·unfold wE8 at e;split at e
    ·exact qEF (kG e)
    ·split at e
     ·rename_i hc;cases e;unfold eCopy at hc
      (repeat' (split at hc))<;>first|(cases hc;done)|(cases hc;exact Grow.refl _ _)|(rename_i hw;cases hc;exact wEG hw)
     ·cases e
    ·exact hp e
    ·exact hp e
    ·exact hp e
    ·exact hp e
    ·cases e
    ·exact hp e
    ·split at e
     ·rename_i hc;cases e;unfold eUStr at hc;simp only[cond_eq_ite]at hc
      (repeat' (split at hc))<;>first|(cases hc;done)|(cases hc;exact Grow.kill _ _ _)|(cases hc;exact Grow.refl _ _)
     ·cases e
    ·cases e
   grind
 case h_24=>grind
 case h_25=>have e:=kG e;cases e;grind [Grow.alloc]
 case h_27=>
  split at e
  ·unfold wGC at e;split at e
   ·rename_i hs;cases e;exact wGJ hs
   ·cases e
  grind
 case h_28=>
  split at e
  ·unfold wGC at e;split at e
   ·rename_i hs;cases e;exact wGJ hs
   ·cases e
  grind
 case h_29=>
  split at e
  ·have e:=kG e;unfold qEA at e;split at e<;>cases e;exact Grow.alloc _ _ _
  grind
 case h_30=>grind [eNext_grow]
 all_goals first
  |exact hp e
  |((repeat' (split at e))<;>first|exact hp e|(cases e;done)|(cases e;exact Grow.refl _ _))
theorem eOp_defer{t:Tree AV}{o:Oper}{q:Call}(h:o.op=.defer q){v:AV}{σ':Hp}{c':Nat}:eOp C ro σ c t o≠some (.val v σ' c'):=by grind [eOp]
theorem qK1(hC:CxOk P C){H:xU}(hH:wA6 P H){rec:Rec}(hR:wH2 P rec){f:FuncId}{args:List AV}{v:AV}{σ':Hp}{c':Nat}(e:callF C H rec ro f args σ c=some (v,σ',c')) :
  Grow c σ c' σ'∧∀n0 φ w us,KB c σ→SRel ro n0 φ σ w→vZ c c' φ→LRel φ args us→wT9 P ro n0 c φ w f us v σ' c':=by
 unfold callF at e;split at e
 ·rename_i r hr;cases e;obtain⟨h1,h2⟩:=hH _ _ _ _ _ _ _ hr
  simp_all
 ·split at e
  ·rename_i af haf;obtain⟨h1,h2⟩:=hR _ _ _ _ _ _ _ e;refine⟨h1,fun n0 φ w us hkb hs hf hl cs=>?_⟩;obtain⟨hfr,hro,hfn⟩:=enterF_rel hC haf hl .normal;obtain⟨w',φ',u,hend,k1,k2,k3,k4⟩:=h2 n0 φ w _ cs hkb hfr hs hf (.inl rfl) (fun _=>rfl);rw[hro]at hend;obtain⟨fr',hst,hdone⟩:=hend;exact⟨w',φ',u,fr',hst,hdone,k1,k2,k3,k4⟩
  grind
theorem wR8:∀{ps:List Tmp}{as:List AV}{t t':Tree AV},wSH ps as t=some t'→∀{nt:Nat}{tmps:Array Value}{us:List Value},allLt nt ps=true→xT φ nt t tmps→LRel φ as us→
  ps.length=us.length∧xT φ nt t' ((ps.zip us).foldl (fun tmps (x:Nat×Value)=>tmps.setIfInBounds x.1 x.2) tmps)
 |[],[],t,t',e,nt,tmps,us,hl,ht,ha=>by cases e;cases ha;simp_all
 |[],_::_,_,_,e,_,_,_,_,_,_=>by cases e
 |_::_,[],_,_,e,_,_,_,_,_,_=>by cases e
 | p::ps,a::as,t,t',e,nt,tmps,us,hl,ht,ha=>by
  simp only[wSH]at e;simp only[allLt]at hl;cases hp:Nat.blt p nt with
  |false=>simp_all
  | true=>
   rw[hp]at hl;cases ha with
   |cons h1 h2=>
    obtain⟨k1,k2⟩:=wR8 e hl (ht.set (by simpa using hp) h1) h2
    simp_all
theorem roundF_ok{rec:Rec}(hR:wH2 P rec){L:Nat}{args:List AV}{v:AV}{σ':Hp}{c':Nat}(e:qCI rec ro L args σ c=some (v,σ',c')) :
  Grow c σ c' σ'∧∀n0 φ w us B s n,KB c σ→φ L=some (B,s,n)→SRel ro n0 φ σ w→vZ c c' φ→LRel φ args us→
   ∃f tmps a b,(Instr.yield B us.toArray).run P w=.ok (.round B f tmps a b) w ∧
    ∀cl rest,∃w' φ' u,Steps P (lone (Frame.round B f tmps a b .normal) (cl::rest) w) (lone (cl.finish u) rest w')∧VRel φ' v u∧SRel ro n0 φ' σ' w'∧Ext c c' φ φ'∧Below n0 w w':=by
 unfold qCI at e;cases hro:Nat.ble ro L with
 |false=>simp_all
 | true =>
  rw[hro]at e;simp only[cond_true]at e;split at e
  case h_2=>cases e
  case h_1 l hl=>
   split at e
   case h_2=>cases e
   case h_1 hst=>
    cases hlt:allLt l.nt l.params with
    |false=>simp_all
    | true=>
     rw[hlt]at e;simp only[cond_true]at e;split at e
     case h_2=>cases e
     case h_1 t ht=>
      obtain⟨h1,h2⟩:=hR _ _ _ _ _ _ _ e;refine⟨h1,fun n0 φ w us B s n hkb hφ hs hf hargs=>?_⟩;obtain⟨x,hx,r,hr,hrel⟩:=hs.h L _ hl;rw[hφ]at hx;cases hx;dsimp only at hr;obtain⟨k1,k2,k3,k4,k5,k6,k7,s',n',k8⟩:=hrel;obtain⟨hlen,htr⟩:=wR8 ht hlt k4 hargs;refine⟨r.fn,(r.params.zip us.toArray).foldl (fun tmps (t,a)=>tmps.setIfInBounds t a) r.tmps,r.assign,r.body,?_,?_⟩
      ·have hsz:us.length=r.params.size:=by rw[←mN,k5];exact hlen.symm
       simp_all [Instr.yield,Instr.getLoop,getObj,Sem.run]
      ·have hzip:(r.params.zip us.toArray).foldl (fun tmps (x:Tmp×Value)=>match x with|(t,a)=>tmps.setIfInBounds t a) r.tmps=(l.params.zip us).foldl (fun tmps (x:Nat×Value)=>tmps.setIfInBounds x.1 x.2) r.tmps:=by
        rw[←Array.foldl_toList,←k5];simp
       rw[hzip];have hfr:FRel φ { fn:=l.fn,nt:=l.nt,tmps:=t,todo:=[.code l.assign,.beginRound,.code l.body],defers:=[],round:=some L }
         (Frame.round B r.fn ((l.params.zip us).foldl (fun tmps (x:Nat×Value)=>tmps.setIfInBounds x.1 x.2) r.tmps) r.assign r.body .normal):=
        ⟨k3,rfl,by simp_all [Frame.round],htr,.nil,B,s,n,hφ,rfl⟩
       intro cl rest;obtain⟨w',φ',u,hend,r1⟩:=h2 n0 φ w _ (cl::rest) hkb hfr hs hf (.inl rfl) (fun _=>rfl);exact⟨w',φ',u,hend cl rest rfl,r1⟩
theorem wEH{nt:Nat}{t:Tree AV}{tmps:Array Value}(h:xT φ nt t tmps)(ops:Array Oper)(o:Oper):Region.wanted o (yielded ops tmps)=xV ops t o:=by
 unfold Region.wanted xV;cases hg:o.guard with
 |none=>rfl
 | some p=>
  obtain⟨j,want⟩:=p;dsimp only;unfold yielded;cases hj:ops[j]? with
  |none=>rfl
  | some q=>
   dsimp only[Option.bind_some];cases hd:q.dst with
   |none=>rfl
   | some d=>
    dsimp only[Option.bind_some];have hv:=h.2 d;rw[mU]at hv;cases hx:tmps[d]? with
    |none=>
     rw[hx]at hv;simp only[Option.getD_none]at hv;cases ht:t.get d with
     |none=>rfl
     |some a=>rw[ht]at hv;simp only[Option.getD_some]at hv;cases hv;rfl
    | some x=>
     rw[hx]at hv;simp only[Option.getD_some]at hv;cases ht:t.get d with
     |none=>rw[ht]at hv;simp only[Option.getD_none]at hv;cases hv;rfl
     |some a=>rw[ht]at hv;simp only[Option.getD_some]at hv;cases hv<;>first|rfl|(dsimp only;rename_i b;cases b<;>cases want<;>rfl)
theorem yT(hC:CxOk P C){H:xU}(hH:wA6 P H){rec:Rec}(hR:wH2 P rec){nt:Nat}{round:Option Nat}{t t':Tree AV}{ops:Array Oper}{i:Nat}{ds:List ADef}{σ':Hp}{c':Nat}(e:opAt C H rec ro nt round t ops i σ c=some (t',ds,σ',c')) :
  Grow c σ c' σ'∧∀n0 φ w (fr:Frame) cs rest k,KB c σ→fr.mode=.run→fr.todo=.inRegion ops (i::rest)::k→xT φ nt t fr.tmps→y9 φ round fr.roundOf→Calm fr cs→SRel ro n0 φ σ w→vZ c c' φ→
   ∃tmps es w' φ',Steps P (lone fr cs w) (lone { fr with tmps:=tmps,todo:=.inRegion ops rest::k,defers:=es++fr.defers } cs w')∧xT φ' nt t' tmps∧DRel φ' ds es∧SRel ro n0 φ' σ' w'∧Ext c c' φ φ'∧Below n0 w w':=by
 unfold opAt at e;split at e
 ·cases e
 ·rename_i o ho;cases hdst:wX4 nt o.dst with
  |false=>simp_all
  | true =>
   rw[hdst]at e;simp only[cond_true]at e
   have fin:∀{fr:Frame}{rest:List Nat}{k:List Item},fr.todo=.inRegion ops (i::rest)::k→∀u,fr.finish u={ fr with tmps:=putC fr.tmps o.dst u,todo:=.inRegion ops rest::k,defers:=[]++fr.defers }:=by grind [wQ7]
   cases hwt:xV ops t o with
   |false=>
    rw[hwt]at e;cases e;refine⟨Grow.refl _ _,fun n0 φ w fr cs rest k hkb hm ht hT hrd hcalm hS hf=>?_⟩;have hw:Region.wanted o (yielded ops fr.tmps)=false:=by grind [wEH]
    have hst:=wR0 (P:=P) (cs:=cs) (w:=w) hm ht ho hw;rw[fin ht]at hst;exact⟨_,[],w,φ,.one hst,hT.put hdst (.tup .nil),.nil,hS,Ext.refl _ _,Below.refl _ _⟩
   | true=>
    rw[hwt]at e;simp only[cond_true]at e;have hwc:∀{φ:Ren}{fr:Frame},xT φ nt t fr.tmps→Region.wanted o (yielded ops fr.tmps)=true:=fun hT=>by rw[wEH hT];exact hwt
    split at e
    ·
     rename_i v σ2 c2 hop;cases e;have hcc:=eOp_grow hop;refine⟨hcc,fun n0 φ w fr cs rest k hkb hm ht hT hrd hcalm hS hf=>?_⟩;obtain⟨nx,u,w',φ',hrun,hnx,hv,hS',hE,hB⟩:=eOp_val (P:=P) hC hS (jM hT) hop hf;have hd:fr.roundOf=none∨∀q,o.op≠.defer q:=by right;exact fun q hq=>eOp_defer hq hop
     have hle:=hE.le hf;refine⟨_,[],w',φ',.one ?_,(hT.mono hle).put hdst hv,.nil,hS',hE,hB⟩;rcases hnx with rfl|⟨rfl,rfl⟩
     ·have:=st_value (P:=P) (cs:=cs) hm ht ho (hwc hT) hd hrun
      rwa [fin ht]at this
     ·have:=st_unit (P:=P) (cs:=cs) hm ht ho (hwc hT) hd hrun
      rwa [fin ht]at this
    ·
     rename_i f args hop;split at e
     case h_2=>cases e
     case h_1 v σ2 c2 hcall=>
      cases e;obtain⟨hcc,hcl⟩:=qK1 hC hH hR hcall;refine⟨hcc,fun n0 φ w fr cs rest k hkb hm ht hT hrd hcalm hS hf=>?_⟩;rcases wO8 hop with⟨_,_,_,h⟩|⟨q,hq,hcq⟩|⟨_,_,_,_,_,_,_,_,_,_,_,_,h⟩
      ·cases h
      ·obtain⟨us,hrun,hargs,_⟩:=eCall_call (P:=P) (w:=w) hC (jM hT) hcq o.type;have hrun':(execOp fr.eval o).run P w=.ok (.enter f us.toArray) w:=by rw[←hrun];unfold execOp;rw[hq]
       have hd:fr.roundOf=none∨∀q,o.op≠.defer q:=.inr fun q' hq'=>by rw[hq]at hq';cases hq'
       have hst:=st_enter (P:=P) (cs:=cs) hm ht ho (hwc hT) hd hrun';obtain⟨w',φ',u,fr',hsteps,hdone,hv,hS',hE,hB⟩:=hcl n0 φ w us hkb hS hf hargs (fr::cs);have hback:=wR1 (P:=P) (cs:=cs) (cl:=fr) hdone rfl;rw[fin ht]at hback;exact⟨_,[],w',φ',.head hst (hsteps.trans (.one hback)),(hT.mono (hE.le hf)).put hdst hv,.nil,hS',hE,hB⟩
      ·cases h
    ·
     rename_i L args hop;split at e
     case h_2=>cases e
     case h_1 v σ2 c2 hround=>
      cases e;obtain⟨hcc,hcl⟩:=roundF_ok hR hround;refine⟨hcc,fun n0 φ w fr cs rest k hkb hm ht hT hrd hcalm hS hf=>?_⟩;rcases wO8 hop with⟨_,_,_,h⟩|⟨q,hq,hcq⟩|⟨_,_,_,_,_,_,_,_,_,_,_,_,h⟩
      ·cases h
      ·obtain⟨B,s,n,us,hφ,hrun,hargs⟩:=eCall_yld (jM hT) hcq o.type;obtain⟨g,tmps,x,y,hy,hcl'⟩:=hcl n0 φ w us B s n hkb hφ hS hf hargs;have hrun':(execOp fr.eval o).run P w=.ok (.round B g tmps x y) w:=by rw[←hy,←hrun];unfold execOp;rw[hq]
       have hd:fr.roundOf=none∨∀q,o.op≠.defer q:=.inr fun q' hq'=>by rw[hq]at hq';cases hq'
       have hst:=st_round (P:=P) (cs:=cs) hm ht ho (hwc hT) hd hrun';obtain⟨w',φ',u,hsteps,hv,hS',hE,hB⟩:=hcl' fr cs;rw[fin ht]at hsteps;exact⟨_,[],w',φ',.head hst hsteps,(hT.mono (hE.le hf)).put hdst hv,.nil,hS',hE,hB⟩
      ·cases h
    ·
     rename_i hop;split at e
     case h_2=>cases e
     case h_1=>
      cases e;refine⟨Grow.refl _ _,fun n0 φ w fr cs rest k hkb hm ht hT hrd hcalm hS hf=>?_⟩;rcases wO8 hop with⟨_,_,_,h⟩|⟨q,hq,hcq⟩|⟨_,_,_,_,_,_,_,_,_,_,_,_,h⟩
      ·cases h
      ·have hrun':(execOp fr.eval o).run P w=.ok .recover w:=by rw[←eCall_rcv (P:=P) (ρ:=fr.eval) (w:=w) hcq o.type];unfold execOp;rw[hq]
       have hd:fr.roundOf=none∨∀q,o.op≠.defer q:=.inl hrd;have hst:=st_recover (P:=P) (cs:=cs) hm ht ho (hwc hT) hd hrd hcalm hrun';rw[fin ht]at hst;exact⟨_,[],w,φ,.one hst,hT.put hdst .nili,.nil,hS,Ext.refl _ _,Below.refl _ _⟩
      ·cases h
    ·
     rename_i f caps args hop;split at e
     case h_2=>cases e
     case h_1=>
      cases e;refine⟨Grow.refl _ _,fun n0 φ w fr cs rest k hkb hm ht hT hrd hcalm hS hf=>?_⟩;rcases wO8 hop with⟨_,_,_,h⟩|⟨q,hq,hcq⟩|⟨q,x,g,fs,cs',as,bs,hq,hcal,hx,has,hcq,h⟩
      ·cases h
      ·exact absurd hcq eCall_dfr
      ·cases h;have hρ:=jM (fr:=fr) hT;have hb:=hρ _ _ hx;generalize hqv:fr.eval x=qv at hb;cases hb with
       | fn k1 k2=>
        rename_i us vs;have hrun:(execOp fr.eval o).run P w=.ok (.defer { target:=.fn (.func f) vs.toArray,args:=us.toArray++q.args.map fr.eval }) w:=by unfold execOp;rw[hq];dsimp only;rw[xC hcal hqv];rfl
        have hd:fr.roundOf=none∨∀q,o.op≠.defer q:=.inl hrd;have hst:=st_defer (P:=P) (cs:=cs) hm ht ho (hwc hT) hd hrun;have hfin:=wQ7 (fr:={ fr with defers:={ target:=.fn (.func f) vs.toArray,args:=us.toArray++q.args.map fr.eval }::fr.defers }) (i:=i) (rest:=rest) (k:=k) ht ho undef;rw[hfin]at hst;refine⟨_,[{ target:=.fn (.func f) vs.toArray,args:=us.toArray++q.args.map fr.eval }],w,φ,.one hst,hT.put hdst (.tup .nil),?_,hS,Ext.refl _ _,Below.refl _ _⟩;have hargs:us.toArray++q.args.map fr.eval=(us++q.args.toList.map fr.eval).toArray:=by apply bU;simp
        rw[hargs];exact .call k2 (k1.append (x4 hρ _ _ has)) .nil
    grind
theorem wPB(hC:CxOk P C)(h:SRel ro n0 φ σ w){nt:Nat}{t:Tree AV}{tmps:Array Value}(hT:xT φ nt t tmps)(g:ResultVar→Sem Value)(hg1:∀d,g (.tmp d)=pure (tmps.getD d undef))(hg2:∀a ty,g (.cell a ty)=(do loadVar ty (←asAddr (tmps.getD a undef)))) :
  ∀(rs:List ResultVar)(vs:List AV),xA (wD4 C σ t) rs=some vs→∃us:List Value,(rs.mapM g).run P w=.ok us w∧LRel φ vs us
 |[],vs,e=>by cases e;exact⟨[],rfl,.nil⟩
 | r :: rs,vs,e=>by
  simp only[xA]at e;cases h1:wD4 C σ t r with
  |none=>simp_all
  | some v=>
   rw[h1]at e;dsimp only at e;cases h2:xA (wD4 C σ t) rs with
   |none=>simp_all
   | some vs'=>
    rw [h2]at e;cases e;obtain⟨us,hus,hr⟩:=wPB hC h hT g hg1 hg2 rs vs' h2;have hone:∃u,(g r).run P w=.ok u w∧VRel φ v u:=by
     cases r with
     |tmp d=>
      simp only[wD4]at h1;have hv:=hT.2 d;refine⟨tmps.getD d undef,by rw[hg1];rfl,?_⟩;cases hg:t.get d with
      |none=>rw[hg]at h1 hv;cases h1;exact hv
      |some x=>rw[hg]at h1 hv;cases h1;exact hv
     | cell a ty=>
      simp only[wD4]at h1;have hv:=hT.2 a;cases hg:t.get a with
      |none=>rw[hg]at h1;cases h1
      | some p=>
       rw[hg]at h1 hv;simp only[Option.getD_some]at hv;obtain⟨u,hu,hru⟩:=qJ6 (P:=P) hC h h1 hv;refine⟨u,?_,hru⟩;have hp:∃A off,p=.ptr A off:=by
        cases p with
        |ptr A off=>exact⟨A,off,rfl⟩
        |_=>cases h1
       obtain⟨A,off,rfl⟩:=hp;have hu':=hu;rw[hg2];have hundef:tmps.getD a undef=tmps.getD a (.tuple #[]):=rfl;rw[hundef];generalize tmps.getD a (.tuple #[])=q at hv hu';cases hv with
       |ptr hφ=>simpa[Instr.loadAt,Instr.sureAddr,asAddr]using hu'
    obtain⟨u,hu,hru⟩:=hone;refine⟨u::us,?_,.cons hru hr⟩
    simp_all
theorem resF_ok(hC:CxOk P C)(h:SRel ro n0 φ σ w){f:FuncId}{nt:Nat}{t:Tree AV}{tmps:Array Value}(hT:xT φ nt t tmps){v:AV}(e:resF C f σ t=some v) :
  ∃fn u,P.funcs[f]? = some fn∧(results fn tmps).run P w=.ok u w∧VRel φ v u:=by
 unfold resF at e;split at e
 ·cases e
 ·rename_i fn hfn;have hf:=(hC.fns _ _ hfn).1;split at e
  ·cases e
  ·rename_i v' hm;cases e;obtain⟨us,hus,hr⟩:=wPB (P:=P) hC h hT (fun|.tmp t=>pure (tmps.getD t undef)|.cell a t=>do loadVar t (←asAddr (tmps.getD a undef))) (fun _=>rfl) (fun _ _=>rfl) _ _ hm;cases hr with
   |cons h1 h2=>
    cases h2;rename_i u;refine⟨fn,u,hf,?_,h1⟩;unfold results;rw[←dY (xs:=fn.results),fR];simp only[Sem.run_bind,Sem.run_map]
    erw [hus]
    rfl
  ·rename_i vs hne hm;cases e;obtain⟨us,hus,hr⟩:=wPB (P:=P) hC h hT (fun|.tmp t=>pure (tmps.getD t undef)|.cell a t=>do loadVar t (←asAddr (tmps.getD a undef))) (fun _=>rfl) (fun _ _=>rfl) _ _ hm;refine⟨fn,.tuple us.toArray,hf,?_,.tup hr⟩;unfold results;rw[←dY (xs:=fn.results),fR];simp only[Sem.run_bind,Sem.run_map]
   erw [hus]
   have hlen:=hr.length;have hn1:us.toArray.size≠1:=by
    intro h1;have h1':us.length=1:=by simpa using h1
    rw[h1']at hlen
    match vs,hlen with
    |[x],_=>exact hne x rfl
   simp_all
theorem unw_ok(hC:CxOk P C){H:xU}{rec:Rec}(hR:wH2 P rec){f:FuncId}{nt:Nat}{t:Tree AV}:∀(ds:List ADef){σ:Hp}{c:Nat}{v:AV}{σ':Hp}{c':Nat},unw C H rec ro f t ds σ c=some (v,σ',c')→
  Grow c σ c' σ'∧∀n0 φ w (fr:Frame) cs,KB c σ→fr.fn=f→fr.mode=.returning→fr.roundOf=none→DRel φ ds fr.defers→xT φ nt t fr.tmps→SRel ro n0 φ σ w→vZ c c' φ→
   ∃w' φ' u fr',Steps P (lone fr cs w) (lone fr' cs w')∧Done P fr fr' w' u∧VRel φ' v u∧SRel ro n0 φ' σ' w'∧Ext c c' φ φ'∧Below n0 w w':=by
 intro ds
 induction ds with
 | nil=>
  intro σ c v σ' c' e;simp only[unw]at e;split at e
  case h_2=>cases e
  case h_1 v hv=>
   cases e;refine⟨Grow.refl _ _,fun n0 φ w fr cs _ hfn hm hr hd hT hS hf=>?_⟩;obtain⟨fn,u,h1,h2,h3⟩:=resF_ok (P:=P) hC hS hT hv;have hd':fr.defers=[]:=by generalize fr.defers=es at hd;cases hd;rfl
   exact⟨w,φ,u,fr,.refl _ _,⟨rfl,hm,hd',rfl,fn,by simp_all,h2⟩,h3,hS,Ext.refl _ _,Below.refl _ _⟩
 | cons d ds ih=>
  intro σ c v σ' c' e;cases d with
  | coll R=>
   simp only[unw]at e;cases hro:Nat.ble ro R with
   |false=>simp_all
   | true=>
    rw[hro]at e;simp only[cond_true]at e;split at e
    case h_2=>cases e
    case h_1 hR'=>
     obtain⟨hcc,ih⟩:=ih e;refine⟨(Grow.kill _ _ _).trans hcc,fun n0 φ w fr cs hkb hfn hm hr hd hT hS hf=>?_⟩;generalize hes:fr.defers=es at hd;cases hd with
     | coll hφ hd=>
      rename_i B s n es;obtain⟨x,hx,hb⟩:=hS.h R _ hR';rw[hφ]at hx;cases hx;have hb:w.heap[B]? = some (.deferred (some [])):=hb;obtain⟨w1,hw1⟩:∃w1:World,w1={ w with heap:=w.heap.setIfInBounds B (.deferred none) }:=⟨_,rfl⟩
      have hrun:(Instr.takeDeferred B).run P w=.ok [] w1:=by simp_all [Instr.takeDeferred,getObj,setObj,Sem.run]
      have hro':=pI hro;have hsz:w1.heap.size=w.heap.size:=by simp_all
      have hoth:∀k,k≠B→w1.heap[k]? = w.heap[k]?:=fun k hk=>by grind
      have hn0:n0≤B:=hS.o R _ hro' (by simp_all) hφ;have hB1:Below n0 w w1:=⟨by rw[hw1],by rw[hw1],by rw[hw1],by omega,fun k hk=>hoth k (by omega)⟩
      have hS1:SRel ro n0 φ (σ.set R none) w1:=by
       have hk:=hS.kill R;refine⟨fun A b hA=>?_,hk.o,hk.d,by grind⟩;obtain⟨x,hx,hr⟩:=hk.h A b hA;refine⟨x,hx,hr.mono (Ren.le.refl _) (hoth _ ?_)⟩;rw[Tree.get_set]at hA;by_cases hAR:A=R
       ·simp_all
       ·rw[if_neg hAR]at hA;exact fun heq=>hS.d R A _ x hro' (dI hAR) (by simp_all) (by simp_all) hφ hx heq.symm
      have hst:=qC8 (P:=P) (cs:=cs) hm hes hrun;obtain⟨w',φ',u,fr',k1,k2,k3,k4,k5,k6⟩:=ih n0 φ w1 { fr with defers:=[]++es } cs ((Grow.kill c _ R).kb hkb) hfn hm hr hd hT hS1 hf;exact⟨w',φ',u,fr',.head hst k1,⟨k2.fn,k2.mode,k2.defers,k2.kind,k2.res⟩,k3,k4,k5,hB1.trans k6⟩
  | call g caps args=>
   simp only[unw]at e;split at e
   ·cases e
   ·rename_i fn hfnq;split at e
    ·cases e
    ·rename_i af haf;split at e
     case h_2=>cases e
     case h_1 v1 σ1 c1 hrec=>
      obtain⟨hc1,hrun⟩:=hR _ _ _ _ _ _ _ hrec;obtain⟨hcc,ih⟩:=ih e;refine⟨hc1.trans hcc,fun n0 φ w fr cs hkb hfn hm hr hd hT hS hf=>?_⟩;generalize hes:fr.defers=es at hd;cases hd with
      |call h k hd=>
       rename_i us vs es;have hargs:vs.toArray++us.toArray=(vs++us).toArray:=by simp
       have hcall:=(hC.fns _ _ hfnq).2 (vs.toArray++us.toArray) w;have hst:=qG1 (P:=P) (cs:=cs) (w:=w) hm hes hcall;rw[hargs]at hst;obtain⟨hfr,hrd,hff⟩:=enterF_rel (P:=P) hC haf (k.append h) .deferred;obtain⟨w1,φ1,u1,hend,k1,k2,k3,k4⟩:=hrun n0 φ w _ ({ fr with defers:=es }::cs) hkb hfr hS (hf.left hcc.le) (.inr ⟨rfl,_,_,rfl,hm⟩) (fun hh=>absurd hrd hh);rw[hrd]at hend;obtain⟨fr1,hs1,hd1⟩:=hend;have hback:=qC4 (P:=P) (cs:=cs) (cl:={ fr with defers:=es }) hd1 rfl hm;have hle:=k3.le (hf.left hcc.le);obtain⟨w',φ',u,fr',q1,q2,q3,q4,q5,q6⟩:=ih n0 φ1 w1 { fr with defers:=es } cs (hc1.kb hkb) hfn hm hr (hd.mono hle) (hT.mono hle) k2 (hf.right k3);exact⟨w',φ',u,fr',.head hst (hs1.trans (.head hback q1)),⟨q2.fn,q2.mode,q2.defers,q2.kind,q2.res⟩,q3,q4,k3.trans q5,k4.trans q6⟩
theorem wVI(hS:SRel ro n0 φ σ w){L B s n:Nat}{l l':ALoop}{r r':Loop}(hφ:φ L=some (B,s,n))(hro:ro≤L)(hl:σ.get L=some (.loop l))(hr:w.heap[B]? = some (.loop r))(hrel:yV φ l' r') :
  SRel ro n0 φ (σ.set L (some (.loop l'))) { w with heap:=w.heap.setIfInBounds B (.loop r') }∧Below n0 w { w with heap:=w.heap.setIfInBounds B (.loop r') }:=by
 have hlt:B<w.heap.size:=(pU.1 hr).1;have hn0:n0≤B:=hS.o L _ hro (by rw[hl];rfl) hφ;refine⟨hS.put hφ hro (by rw[hl];rfl) (.loop l') ⟨r',by simp[hlt],hrel⟩ (by simp) fun k hk _=>by simp[Array.getElem?_setIfInBounds_ne (Ne.symm hk)],⟨rfl,rfl,rfl,by simp,fun k hk=>?_⟩⟩
 grind
theorem leaveF_ok(hC:CxOk P C){H:xU}{rec:Rec}(hR:wH2 P rec){af:AFr}{jump:Option Code}{v:AV}{σ':Hp}{c':Nat}(e:wL8 C H rec ro af σ c jump=some (v,σ',c')) :
  Grow c σ c' σ'∧∀n0 φ w (fr:Frame) cs,KB c σ→FRel φ af fr→SRel ro n0 φ σ w→vZ c c' φ→(af.round≠none→fr.kind=.normal)→
   (∃k,(af.todo=[]∧jump=none)∨(af.todo=.code .ret::k∧jump=some .ret)∨(∃id,af.todo=.code (.exit id)::k∧exitTo id k=none∧jump=some (.exit id))∨(∃l,af.todo=.code (.goto l)::k∧gotoIn l k=none∧jump=some (.goto l)))→
   wC4 P ro n0 c φ fr cs w af.round v σ' c':=by
 unfold wL8 at e;split at e
 ·rename_i L hround;cases hro:Nat.ble ro L with
  |false=>simp_all
  | true=>
   rw[hro]at e;simp only[cond_true]at e;split at e
   case h_2=>cases e
   case h_1 l hl=>
    cases e;refine⟨Grow.put _ (by simp_all),fun n0 φ w fr cs _ hfr hS hf hk htodo=>?_⟩;have hrr:=hfr.round;rw[hround]at hrr;obtain⟨B,s,n,hφ,hrf⟩:=hrr;obtain⟨x,hx,r,hr,hrel⟩:=hS.h L _ hl;rw[hφ]at hx;cases hx;dsimp only at hr;have hro':=pI hro;obtain⟨q1,q2,q3,q4,q5,q6,q7,q8⟩:=hrel;have hrel':yV φ { l with st:=if jump.isNone then .ready else .done,pend:=jump } { r with state:=if jump.isNone then .ready else .done,pending:=jump }:=⟨rfl,rfl,q3,q4,q5,q6,q7,q8⟩
    obtain⟨hS',hB'⟩:=wVI hS hφ hro' hl hr hrel';have hrun:(Instr.endRound B jump).run P w=.ok (.bool jump.isNone) { w with heap:=w.heap.setIfInBounds B (.loop { r with state:=if jump.isNone then .ready else .done,pending:=jump }) }:=by simp[Instr.endRound,Instr.getLoop,getObj,setObj,Sem.run,hr]
    refine⟨_,φ,.bool jump.isNone,?_,.bool _,hS',Ext.refl _ _,hB'⟩;rw[hround];intro cl rest hcs;subst hcs;obtain⟨k,hk'⟩:=htodo;rw[←hfr.todo]at hk';exact .one (qG0 (k:=k) hfr.mode hrf (hk (by simp_all)) hk' hrun)
 ·rename_i hround;have main:∀{v σ' c'},unw C H rec ro af.fn af.tmps af.defers σ c=some (v,σ',c')→Grow c σ c' σ'∧∀n0 φ w (fr:Frame) cs,KB c σ→FRel φ af fr→SRel ro n0 φ σ w→vZ c c' φ→step P (lone fr cs w)=.next (lone { fr with mode:=.returning } cs w)→wC4 P ro n0 c φ fr cs w af.round v σ' c':=by
   intro v σ' c' he;obtain⟨hcc,h⟩:=unw_ok (P:=P) hC hR af.defers (nt:=af.nt) he;refine⟨hcc,fun n0 φ w fr cs hkb hfr hS hf hst=>?_⟩;have hrr:=hfr.round;rw[hround]at hrr;obtain⟨w',φ',u,fr',k1,k2,k3,k4,k5,k6⟩:=h n0 φ w { fr with mode:=.returning } cs hkb hfr.fn rfl hrr hfr.defers hfr.tmps hS hf;refine⟨w',φ',u,?_,k3,k4,k5,k6⟩;rw[hround];exact⟨fr',.head hst k1,k2.fn,k2.mode,k2.defers,k2.kind,k2.res⟩
  split at e
  ·obtain⟨hcc,h⟩:=main e;refine⟨hcc,fun n0 φ w fr cs hkb hfr hS hf hk htodo=>?_⟩;have hrr:=hfr.round;rw[hround]at hrr;obtain⟨k,hk'⟩:=htodo;rw[←hfr.todo]at hk';rcases hk' with⟨ht,_⟩|⟨_,hj⟩|⟨_,_,_,hj⟩|⟨_,_,_,hj⟩
   ·exact h n0 φ w fr cs hkb hfr hS hf (qC7 hfr.mode hrr ht)
   all_goals cases hj
  ·obtain⟨hcc,h⟩:=main e;refine⟨hcc,fun n0 φ w fr cs hkb hfr hS hf hk htodo=>?_⟩;have hrr:=hfr.round;rw[hround]at hrr;obtain⟨k,hk'⟩:=htodo;rw[←hfr.todo]at hk';rcases hk' with⟨_,hj⟩|⟨ht,_⟩|⟨_,_,_,hj⟩|⟨_,_,_,hj⟩
   ·cases hj
   ·exact h n0 φ w fr cs hkb hfr hS hf (qC6 hfr.mode hrr ht)
   all_goals cases hj
  grind
end
section
variable{P:Program}{C:Cx}
theorem wC4.head{ro n0 c:Nat}{φ:Ren}{fr fr1:Frame}{cs:List Frame}{w w1:World}{r:Option Nat}{v:AV}{σ':Hp}{c' c1:Nat}{φ1:Ren}(hst:Steps P (lone fr cs w) (lone fr1 cs w1))(hfn:fr1.fn=fr.fn)(hk:fr1.kind=fr.kind)(hE:Ext c c1 φ φ1)(hB:Below n0 w w1)(h:wC4 P ro n0 c1 φ1 fr1 cs w1 r v σ' c'):wC4 P ro n0 c φ fr cs w r v σ' c':=by
 obtain⟨w',φ',u,hend,k1,k2,k3,k4⟩:=h;refine⟨w',φ',u,?_,k1,k2,hE.trans k3,hB.trans k4⟩;cases r with
 |none=>obtain⟨fr',q1,q2⟩:=hend;exact⟨fr',hst.trans q1,by rw[q2.fn,hfn],q2.mode,q2.defers,by rw[q2.kind,hk],by rw[←hfn];exact q2.res⟩
 |some L=>exact fun cl rest hcs=>hst.trans (hend cl rest hcs)
theorem loopIn_ok{ro c:Nat}{σ:Hp}{af:AFr}{params:Array Tmp}{assign body:Code}{L:Nat}{ds:List ADef}{σ1:Hp}{c1:Nat}(e:loopIn af params assign body σ c=some (L,ds,σ1,c1)) :
  Grow c σ c1 σ1∧∀n0 φ w (fr:Frame),FRel φ af fr→SRel ro n0 φ σ w→vZ c c1 φ→
   ∃l s n mark w1 φ1,(Instr.enterLoop fr.fn fr.tmps params assign body fr.roundOf).run P w=.ok (l,mark) w1∧φ1 L=some (l,s,n)∧DRel φ1 ds mark∧SRel ro n0 φ1 σ1 w1∧Ext c c1 φ φ1∧Below n0 w w1:=by
 unfold loopIn at e;split at e
 ·rename_i hround;cases e;refine⟨(Grow.alloc _ _ _).trans (Grow.alloc _ _ _),fun n0 φ w fr hfr hS hf=>?_⟩;have hrr:=hfr.round;rw[hround]at hrr;have h0:φ c=none:=hf c (pC _) (by omega);have hS1:=hS.alloc h0 .dfr (.deferred (some [])) 0 (heap_alloc_new w _);have h1:(φ.ext c (w.heap.size,0,0)) (c+1)=none:=by rw[Ren.ext_other _ _ (by omega)];exact hf _ (by omega) (by omega)
  have hle1:=Ren.le_ext (w.heap.size,0,0) h0;have hle2:=Ren.le_ext ((w.alloc (.deferred (some []))).heap.size,0,0) h1;have hloop:yV ((φ.ext c (w.heap.size,0,0)).ext (c+1) ((w.alloc (.deferred (some []))).heap.size,0,0))
    { st:=.ready,pend:=none,fn:=af.fn,nt:=af.nt,tmps:=af.tmps,params:=params.toList,assign:=assign,body:=body,dblk:=c }
    { state:=.ready,pending:=none,fn:=fr.fn,tmps:=fr.tmps,params:=params,assign:=assign,body:=body,defers:=w.heap.size }:=
   ⟨rfl,rfl,hfr.fn,(hfr.tmps.mono hle1).mono hle2,rfl,rfl,rfl,0,0,hle2 _ _ (Ren.ext_self _ _ _)⟩
  have hS2:=hS1.alloc h1 (.loop { st:=.ready,pend:=none,fn:=af.fn,nt:=af.nt,tmps:=af.tmps,params:=params.toList,assign:=assign,body:=body,dblk:=c })
   (.loop { state:=.ready,pending:=none,fn:=fr.fn,tmps:=fr.tmps,params:=params,assign:=assign,body:=body,defers:=w.heap.size }) 0 ⟨_,heap_alloc_new _ _,hloop⟩
  refine⟨(w.alloc (.deferred (some []))).heap.size,0,0,[{ target:=.collected w.heap.size,args:=#[] }],_,_,?_,Ren.ext_self _ _ _,.coll (hle2 _ _ (Ren.ext_self _ _ _)) .nil,hS2,(Ext.alloc _).trans (Ext.alloc _),((Below.refl _ _).alloc hS.s _).alloc (by have:=hS.s;simp;omega) _⟩;rw[hrr];rfl
 ·rename_i L' hround;split at e
  case h_2=>cases e
  case h_1 l hl=>
   cases e;refine⟨Grow.alloc _ _ _,fun n0 φ w fr hfr hS hf=>?_⟩;have hrr:=hfr.round;rw[hround]at hrr;obtain⟨B,s,n,hφ,hrf⟩:=hrr;obtain⟨x,hx,r,hr,hrel⟩:=hS.h L' _ hl;rw[hφ]at hx;cases hx;dsimp only at hr;obtain⟨q1,q2,q3,q4,q5,q6,q7,s',n',q8⟩:=hrel;have h0:φ c=none:=hf c (pC _) (by omega);have hle1:=Ren.le_ext (w.heap.size,0,0) h0;have hloop:yV (φ.ext c (w.heap.size,0,0)) { st:=.ready,pend:=none,fn:=af.fn,nt:=af.nt,tmps:=af.tmps,params:=params.toList,assign:=assign,body:=body,dblk:=l.dblk }
     { state:=.ready,pending:=none,fn:=fr.fn,tmps:=fr.tmps,params:=params,assign:=assign,body:=body,defers:=r.defers }:=
    ⟨rfl,rfl,hfr.fn,hfr.tmps.mono hle1,rfl,rfl,rfl,s',n',hle1 _ _ q8⟩
   have hS2:=hS.alloc h0 (.loop { st:=.ready,pend:=none,fn:=af.fn,nt:=af.nt,tmps:=af.tmps,params:=params.toList,assign:=assign,body:=body,dblk:=l.dblk })
    (.loop { state:=.ready,pending:=none,fn:=fr.fn,tmps:=fr.tmps,params:=params,assign:=assign,body:=body,defers:=r.defers }) 0 ⟨_,heap_alloc_new _ _,hloop⟩
   refine⟨w.heap.size,0,0,[],_,_,?_,Ren.ext_self _ _ _,.nil,hS2,Ext.alloc _,(Below.refl _ _).alloc hS.s _⟩
   simp_all [Instr.enterLoop,Instr.getLoop,getObj,Sem.run]
theorem evStep_ok(hC:CxOk P C){H:xU}(hH:wA6 P H){D:Drw}(hD:DrwOk P D){rec:Rec}(hR:wH2 P rec):wH2 P (qE8 C H D rec):=by
 intro ro af σ c v σ' c' e
 have move:∀(td:List Item),rec ro { af with todo:=td } σ c=some (v,σ',c')→
   (∀(fr:Frame) cs w,fr.mode=.run→fr.todo=af.todo→fr.roundOf=fr.roundOf→step P (lone fr cs w)=.next (lone { fr with todo:=td } cs w))→
   Grow c σ c' σ'∧∀n0 φ w fr cs,KB c σ→FRel φ af fr→SRel ro n0 φ σ w→vZ c c' φ→Calm fr cs→(af.round≠none→fr.kind=.normal)→wC4 P ro n0 c φ fr cs w af.round v σ' c':=by
  intro td he hst;obtain⟨h1,h2⟩:=hR _ _ _ _ _ _ _ he;refine⟨h1,fun n0 φ w fr cs hkb hfr hS hf hc hk=>?_⟩;exact wC4.head (.one (hst fr cs w hfr.mode hfr.todo rfl)) rfl rfl (Ext.refl _ _) (Below.refl _ _)
   (h2 n0 φ w { fr with todo:=td } cs hkb ⟨hfr.fn,hfr.mode,rfl,hfr.tmps,hfr.defers,hfr.round⟩ hS hf hc hk)
 have leave:∀(jump:Option Code)(k:List Item),wL8 C H rec ro af σ c jump=some (v,σ',c')→
   ((af.todo=[]∧jump=none)∨(af.todo=.code .ret::k∧jump=some .ret)∨(∃id,af.todo=.code (.exit id)::k∧exitTo id k=none∧jump=some (.exit id))∨(∃l,af.todo=.code (.goto l)::k∧gotoIn l k=none∧jump=some (.goto l)))→
   Grow c σ c' σ'∧∀n0 φ w fr cs,KB c σ→FRel φ af fr→SRel ro n0 φ σ w→vZ c c' φ→Calm fr cs→(af.round≠none→fr.kind=.normal)→wC4 P ro n0 c φ fr cs w af.round v σ' c':=by
  intro jump k he ht;obtain⟨h1,h2⟩:=leaveF_ok (P:=P) hC hR he;exact⟨h1,fun n0 φ w fr cs hkb hfr hS hf _ hk=>h2 n0 φ w fr cs hkb hfr hS hf hk ⟨k,ht⟩⟩
 unfold qE8 at e;split at e
 ·
  rename_i ht;exact leave _ [] e (.inl ⟨ht,rfl⟩)
 ·rename_i cd k ht;split at e
  ·exact move _ e fun fr cs w hm h _=>st_skip hm (h.trans ht)
  ·exact move _ e fun fr cs w hm h _=>st_label hm (h.trans ht)
  ·exact move _ e fun fr cs w hm h _=>st_seq hm (h.trans ht)
  ·
   rename_i q a b;split at e
   ·rename_i hq;obtain⟨h1,h2⟩:=hR _ _ _ _ _ _ _ e;refine⟨h1,fun n0 φ w fr cs hkb hfr hS hf hc hk=>?_⟩;have hb:=jM hfr.tmps _ _ hq;generalize hqv:fr.eval q=qv at hb;cases hb;exact wC4.head (.one (st_cond (t:=true) hfr.mode (hfr.todo.trans ht) hqv)) rfl rfl (Ext.refl _ _) (Below.refl _ _) (h2 n0 φ w { fr with todo:=.code a::k } cs hkb ⟨hfr.fn,hfr.mode,rfl,hfr.tmps,hfr.defers,hfr.round⟩ hS hf hc hk)
   ·rename_i hq;obtain⟨h1,h2⟩:=hR _ _ _ _ _ _ _ e;refine⟨h1,fun n0 φ w fr cs hkb hfr hS hf hc hk=>?_⟩;have hb:=jM hfr.tmps _ _ hq;generalize hqv:fr.eval q=qv at hb;cases hb;exact wC4.head (.one (st_cond (t:=false) hfr.mode (hfr.todo.trans ht) hqv)) rfl rfl (Ext.refl _ _) (Below.refl _ _) (h2 n0 φ w { fr with todo:=.code b::k } cs hkb ⟨hfr.fn,hfr.mode,rfl,hfr.tmps,hfr.defers,hfr.round⟩ hS hf hc hk)
   ·cases e
  ·exact move _ e fun fr cs w hm h _=>st_block hm (h.trans ht)
  ·exact move _ e fun fr cs w hm h _=>st_loop hm (h.trans ht)
  ·exact move _ e fun fr cs w hm h _=>st_scope hm (h.trans ht)
  ·
   rename_i id;split at e
   ·rename_i k' he;exact move _ e fun fr cs w hm h _=>st_exit hm (h.trans ht) he
   ·rename_i he;exact leave _ k e (.inr (.inr (.inl ⟨id,ht,he,rfl⟩)))
  ·rename_i l;split at e
   ·rename_i k' he;exact move _ e fun fr cs w hm h _=>st_goto hm (h.trans ht) he
   ·rename_i he;exact leave _ k e (.inr (.inr (.inr ⟨l,ht,he,rfl⟩)))
  ·exact leave _ k e (.inr (.inl ⟨ht,rfl⟩))
  ·
   rename_i id ops draw;split at e
   ·exact move _ e fun fr cs w hm h _=>st_region hm (h.trans ht)
   ·split at e
    case h_2=>cases e
    case h_1 t σ1 c1 hdr=>
     obtain⟨h1,h2⟩:=hD rec hR _ _ _ _ _ _ _ _ _ _ hdr;obtain⟨h3,h4⟩:=hR _ _ _ _ _ _ _ e;refine⟨h1.trans h3,fun n0 φ w fr cs hkb hfr hS hf hc hk=>?_⟩;obtain⟨tmps,w1,φ1,hst,hT,hS1,hE,hB⟩:=h2 n0 φ w fr cs id k hkb hfr.mode (hfr.todo.trans ht) hfr.tmps hfr.round hc hS (hf.left h3.le);have hle:=hE.le (hf.left h3.le);refine wC4.head hst rfl rfl hE hB (h4 n0 φ1 w1 { fr with tmps:=tmps,todo:=k } cs (h1.kb hkb) ⟨hfr.fn,hfr.mode,rfl,hT,hfr.defers.mono hle,?_⟩ hS1 (hf.right hE) hc hk);have hrr:=hfr.round;cases hround:af.round with
     |none=>rw[hround]at hrr;exact hrr
     |some L=>rw[hround]at hrr;obtain⟨B,s,n,q1,q2⟩:=hrr;exact⟨B,s,n,hle _ _ q1,q2⟩
  ·
   rename_i f params assign body;split at e
   case h_2=>cases e
   case h_1 g fs cs' hf0=>
    split at e
    ·cases e
    ·rename_i fn hfn;split at e
     ·cases e
     ·rename_i L ds σ1 c1 hin;split at e
      ·cases e
      ·rename_i v1 σ2 c2 hcall;split at e
       case h_2=>cases e
       case h_1 l hl=>
        cases hro:Nat.ble ro L with
        |false=>rw[hro]at e;cases e
        | true=>
         rw[hro]at e;simp only[cond_true]at e;have hro':=pI hro;have hnb:l.st≠.busy∧rec ro { af with todo:=(match l.pend with|some j=>.code j::k|none=>k),defers:=ds++af.defers } (σ2.set L none) c2=some (v,σ',c'):=by
          split at e
          ·cases e
          ·rename_i hne;exact⟨hne,e⟩
         obtain⟨hnb,e⟩:=hnb;obtain⟨h1,h2⟩:=loopIn_ok (P:=P) (ro:=ro) hin;obtain⟨h3,h4⟩:=qK1 hC hH hR hcall;obtain⟨h5,h6⟩:=hR _ _ _ _ _ _ _ e;refine⟨h1.trans (h3.trans ((Grow.kill _ _ _).trans h5)),fun n0 φ w fr cs hkb hfr hS hf hc hk=>?_⟩;obtain⟨lc,s,n,mark,w1,φ1,hen,hφL,hDs,hS1,hE1,hB1⟩:=h2 n0 φ w fr hfr hS (hf.left (pD h3.le h5.le));have hle1:=hE1.le (hf.left (pD h3.le h5.le));have hf1:=hf.right hE1;have hv0:=(jM hfr.tmps _ _ hf0).mono hle1;generalize hqv:fr.eval f=qv at hv0;cases hv0 with
         | fn k1 k2=>
          rename_i us vs;have hargs:LRel φ1 (fs++[.yld L]++cs') (us++[Value.func (.yield lc) #[] #[]]++vs):=(k1.append (.cons (.yld hφL) .nil)).append k2;obtain⟨w2,φ2,u,fr2,hs2,hd2,_,hS2,hE2,hB2⟩:=h4 n0 φ1 w1 _ (h1.kb hkb) hS1 (hf1.left h5.le) hargs ({ fr with todo:=.inRangeFunc lc::k,defers:=mark++fr.defers }::cs);have hle2:=hE2.le (hf1.left h5.le);have hcl:∀fr':Frame,fr'.tmps=fr.tmps→(do let d ←resolve fr'.eval { callee:=.value f,args:=#[.const (.func (.yield lc) #[] #[])],argTypes:=#[] } 0;invoke d.target d.args:Sem Next).run P w1=.ok (.enter g (us++[Value.func (.yield lc) #[] #[]]++vs).toArray) w1:=by
           intro fr' htm;have hev:fr'.eval f=fr.eval f:=by cases f<;>simp[Frame.eval,htm]
           rw[xC (f:=f) rfl (hev.trans hqv),pure_bind];simp only[invoke]
           have:us.toArray++#[Operand.const (Value.func (.yield lc) #[] #[])].map fr'.eval++vs.toArray=(us++[Value.func (.yield lc) #[] #[]]++vs).toArray:=by apply bU;simp[Frame.eval]
           rw[this];exact(hC.fns _ _ hfn).2 _ _
          have hst1:=qC5 (P:=P) (cs:=cs) hfr.mode (hfr.todo.trans ht) hen hcl;have hback:=wR1 (P:=P) (cs:=cs) (cl:={ fr with todo:=.inRangeFunc lc::k,defers:=mark++fr.defers }) hd2 rfl;have hfin:({ fr with todo:=.inRangeFunc lc::k,defers:=mark++fr.defers }:Frame).finish u={ fr with todo:=.endRangeFunc lc::k,defers:=mark++fr.defers }:=by simp[Frame.finish]
          rw[hfin]at hback
          obtain⟨x,hx,r,hr,hrel⟩:=hS2.h L _ hl;have hφL2:=hle2 _ _ hφL;rw[hφL2]at hx;cases hx;dsimp only at hr;obtain⟨q1,q2,q3,q4,q5,q6,q7,q8⟩:=hrel;have hrel':yV φ2 { l with st:=.exhausted } { r with state:=.exhausted }:=⟨rfl,q2,q3,q4,q5,q6,q7,q8⟩
          obtain⟨hS3,hB3⟩:=wVI hS2 hφL2 hro' hl hr hrel';have hnb':¬r.state=.busy:=by rw[q1];exact hnb
          have hend:(Instr.endLoop lc).run P w2=.ok l.pend { w2 with heap:=w2.heap.setIfInBounds lc (.loop { r with state:=.exhausted }) }:=by simp[Instr.endLoop,Instr.getLoop,getObj,setObj,Sem.run,hr,hnb',q2]
          have hst3:=wSB (P:=P) (cs:=cs) (fr:={ fr with todo:=.endRangeFunc lc::k,defers:=mark++fr.defers }) hfr.mode rfl hend;have htodo:(l.pend.map Item.code).toList++k=(match l.pend with|some j=>.code j::k|none=>k):=by cases l.pend<;>rfl
          rw[htodo]at hst3;have hS4:SRel ro n0 φ2 (σ2.set L none) { w2 with heap:=w2.heap.setIfInBounds lc (.loop { r with state:=.exhausted }) }:=by
           have hk3:=hS3.kill L;have hget:∀A,(σ2.set L none).get A=((σ2.set L (some (.loop { l with st:=.exhausted }))).set L none).get A:=by
            intro A;rw[Tree.get_set,Tree.get_set];split
            ·rfl
            ·rename_i hA;rw[Tree.get_set,if_neg hA]
           exact⟨fun A b hA=>hk3.h A b (by rw[←hget];exact hA),fun A x h1 h2 h3=>hk3.o A x h1 (by rw[←hget];exact h2) h3,
            fun A A' x x' h1 h2 h3 h4 h5 h6=>hk3.d A A' x x' h1 h2 (by rw[←hget];exact h3) (by rw[←hget];exact h4) h5 h6,hk3.s⟩
          have hsteps:Steps P (lone fr cs w) (lone { fr with todo:=(match l.pend with|some j=>.code j::k|none=>k),defers:=mark++fr.defers } cs { w2 with heap:=w2.heap.setIfInBounds lc (.loop { r with state:=.exhausted }) }):=
           .head hst1 (hs2.trans (.head hback (.one hst3)))
          have hle:=hle1.trans hle2;refine wC4.head hsteps rfl rfl (hE1.trans hE2) ((hB1.trans hB2).trans hB3) (h6 n0 φ2 _ _ cs ((Grow.kill _ _ _).kb (h3.kb (h1.kb hkb))) ⟨hfr.fn,hfr.mode,rfl,hfr.tmps.mono hle,(hDs.mono hle2).append (hfr.defers.mono hle),?_⟩ hS4 (hf1.right hE2) hc hk);have hrr:=hfr.round;show y9 φ2 af.round fr.roundOf;cases hround:af.round with
          |none=>rw[hround]at hrr;exact hrr
          |some L'=>rw[hround]at hrr;obtain⟨B,s,n,q1,q2⟩:=hrr;exact⟨B,s,n,hle _ _ q1,q2⟩
  ·cases e
 ·rename_i k ht;exact move _ e fun fr cs w hm h _=>st_inBlock hm (h.trans ht)
 ·rename_i k ht;exact move _ e fun fr cs w hm h _=>st_inScope hm (h.trans ht)
 ·rename_i k ht;exact move _ e fun fr cs w hm h _=>st_inLoop hm (h.trans ht)
 ·rename_i k ht;exact move _ e fun fr cs w hm h _=>wMG hm (h.trans ht)
 ·
  rename_i ops i is k ht;split at e
  case h_2=>cases e
  case h_1 t ds σ1 c1 hop=>
   obtain⟨h1,h2⟩:=yT (P:=P) hC hH hR hop;obtain⟨h3,h4⟩:=hR _ _ _ _ _ _ _ e;refine⟨h1.trans h3,fun n0 φ w fr cs hkb hfr hS hf hc hk=>?_⟩;obtain⟨tmps,es,w1,φ1,hst,hT,hDs,hS1,hE,hB⟩:=h2 n0 φ w fr cs is k hkb hfr.mode (hfr.todo.trans ht) hfr.tmps hfr.round hc hS (hf.left h3.le);have hle:=hE.le (hf.left h3.le);refine wC4.head hst rfl rfl hE hB (h4 n0 φ1 w1 { fr with tmps:=tmps,todo:=.inRegion ops is::k,defers:=es++fr.defers } cs (h1.kb hkb) ⟨hfr.fn,hfr.mode,rfl,hT,hDs.append (hfr.defers.mono hle),?_⟩ hS1 (hf.right hE) hc hk);have hrr:=hfr.round;cases hround:af.round with
   |none=>rw[hround]at hrr;exact hrr
   |some L=>rw[hround]at hrr;obtain⟨B,s,n,q1,q2⟩:=hrr;exact⟨B,s,n,hle _ _ q1,q2⟩
 ·
  rename_i k ht;split at e
  case h_2=>cases e
  case h_1 L hround=>
   cases hro:Nat.ble ro L with
   |false=>rw[hro]at e;cases e
   | true=>
    rw[hro]at e;simp only[cond_true]at e;split at e
    case h_2=>cases e
    case h_1 l hl=>
     split at e
     case h_2=>cases e
     case h_1 hstl=>
      obtain⟨h3,h4⟩:=hR _ _ _ _ _ _ _ e;refine⟨(Grow.put _ (by rw[hl];rfl)).trans h3,fun n0 φ w fr cs hkb hfr hS hf hc hk=>?_⟩;have hrr:=hfr.round;rw[hround]at hrr;obtain⟨B,s,n,hφ,hrf⟩:=hrr;obtain⟨x,hx,r,hr,hrel⟩:=hS.h L _ hl;rw[hφ]at hx;cases hx;dsimp only at hr;have hro':=pI hro;obtain⟨q1,q2,q3,q4,q5,q6,q7,q8⟩:=hrel;have hrel':yV φ { l with st:=.busy } { r with state:=.busy }:=⟨rfl,q2,q3,q4,q5,q6,q7,q8⟩
      obtain⟨hS',hB'⟩:=wVI hS hφ hro' hl hr hrel';have hrst:r.state=.ready:=q1.trans hstl;have hrun:(Instr.beginRound B).run P w=.ok () { w with heap:=w.heap.setIfInBounds B (.loop { r with state:=.busy }) }:=by simp[Instr.beginRound,Instr.getLoop,getObj,setObj,Sem.run,hr,hrst]
      have hst:=wY9 (P:=P) (cs:=cs) hfr.mode (hfr.todo.trans ht) hrf hrun;refine wC4.head (.one hst) rfl rfl (Ext.refl _ _) hB' (h4 n0 φ _ { fr with todo:=k } cs ((Grow.put _ (by rw[hl];rfl)).kb hkb) ⟨hfr.fn,hfr.mode,rfl,hfr.tmps,hfr.defers,?_⟩ hS' hf hc hk);show y9 φ af.round fr.roundOf;rw[hround];exact⟨B,s,n,hφ,hrf⟩
 grind
theorem ev_ok(hC:CxOk P C){H:xU}(hH:wA6 P H){D:Drw}(hD:DrwOk P D):∀n,wH2 P (ev C H D n)
 |0=>fun ro af σ c v σ' c' e=>by simp_all [ev_zero]
 |n+1=>by rw[ev_succ];exact evStep_ok hC hH hD (ev_ok hC hH hD n)
end
section
variable{P:Program}{C:Cx}{ro n0 c:Nat}{φ:Ren}{w:World}
theorem wNA{A:Nat}{old:ABlk}{A':Nat}{b:ABlk}(h:((Tree.lf:Hp).set A (some old)).get A'=some b):A'=A∧b=old:=by
 rw[Tree.get_set]at h;by_cases hA:A'=A
 ·rw[if_pos hA]at h;cases h;exact⟨hA,rfl⟩
 ·rw[if_neg hA,Tree.get_lf]at h;cases h
theorem SRel.own{A:Nat}{old:ABlk}{x:Nat×Nat×Nat}(hφ:φ A=some x)(hb:wED φ old x w)(hn:n0≤x.1):SRel ro n0 φ ((Tree.lf:Hp).set A (some old)) w:=by
 refine⟨fun A' b h=>?_,fun A' y _ h hy=>?_,fun A' A'' y y' _ hne h h'=>?_,pD hn (dK hb.lt)⟩
 ·obtain⟨rfl,rfl⟩:=wNA h;exact⟨x,hφ,hb⟩
 ·obtain⟨b,hb'⟩:=mZ.1 h;obtain⟨rfl,_⟩:=wNA hb';rw[hφ]at hy;cases hy;exact hn
 grind [Option.isSome_iff_exists,absurd,wNA,trans]
theorem opAt_store(hC:CxOk P C){H:xU}{rec:Rec}{nt:Nat}{round:Option Nat}{t t':Tree AV}{ops:Array Oper}{i:Nat}{ds:List ADef}{A:Nat}{old new:ABlk}{σ':Hp}{c':Nat}{o:Oper}(ho:ops[i]? = some o){ty:TypeId}{ad va:Operand}(hst:o.op=.store ty ad va)(e:opAt C H rec ro nt round t ops i ((Tree.lf:Hp).set A (some old)) c=some (t',ds,σ',c'))(hnew:σ'.get A=some new) :
  c'=c∧ds=[]∧∀n0 φ w (fr:Frame) cs rest k x,fr.mode=.run→fr.todo=.inRegion ops (i::rest)::k→xT φ nt t fr.tmps→φ A=some x→wED φ old x w→n0≤x.1→
   ∃tmps w',Steps P (lone fr cs w) (lone { fr with tmps:=tmps,todo:=.inRegion ops rest::k } cs w')∧xT φ nt t' tmps∧wED φ new x w'∧(∀k,k≠x.1→w'.heap[k]? = w.heap[k]?)∧Below n0 w w':=by
 unfold opAt at e;split at e
 ·cases e
 ·rename_i o' ho';rw[ho]at ho';cases ho';cases hdst:wX4 nt o.dst with
  |false=>simp_all
  | true =>
   rw[hdst]at e;simp only[cond_true]at e;have fin:∀{fr:Frame}{rest:List Nat}{k:List Item},fr.todo=.inRegion ops (i::rest)::k→∀u,fr.finish u={ fr with tmps:=putC fr.tmps o.dst u,todo:=.inRegion ops rest::k }:=by grind [wQ7]
   cases hwt:xV ops t o with
   |false=>
    rw[hwt]at e;cases e;have:=(wNA hnew).2;subst this;refine⟨rfl,rfl,fun n0 φ w fr cs rest k x hm ht hT hφ hb hn=>?_⟩;have hw:Region.wanted o (yielded ops fr.tmps)=false:=by grind [wEH]
    have hst:=wR0 (P:=P) (cs:=cs) (w:=w) hm ht ho hw;rw[fin ht]at hst;exact⟨_,w,.one hst,hT.put hdst (.tup .nil),hb,fun _ _=>rfl,Below.refl _ _⟩
   | true =>
    rw[hwt]at e;simp only[cond_true]at e;have hwc:∀{φ:Ren}{fr:Frame},xT φ nt t fr.tmps→Region.wanted o (yielded ops fr.tmps)=true:=fun hT=>by grind [wEH]
    have hop:eOp C ro ((Tree.lf:Hp).set A (some old)) c t o=(match opd t ad,opd t va with
     |some a,some v=>wGC c (wIB C ro ((Tree.lf:Hp).set A (some old)) ty a v)
     |_,_=>none):=by grind [eOp]
    rw[hop]at e;cases ha:opd t ad with
    |none=>simp_all
    | some a=>
     cases hv:opd t va with
     |none=>simp_all
     | some v=>
      rw[ha,hv]at e;dsimp only at e;cases hs:wIB C ro ((Tree.lf:Hp).set A (some old)) ty a v with
      |none=>rw[hs]at e;cases e
      | some σ2=>
       rw[hs]at e;cases e;refine⟨rfl,rfl,fun n0 φ w fr cs rest k x hm ht hT hφ hb hn=>?_⟩;have hS:SRel ro n0 φ ((Tree.lf:Hp).set A (some old)) w:=SRel.own hφ hb hn;have hρ:=jM hT;obtain⟨w',h1,h2,h3,h4⟩:=wWH (P:=P) hC hS hs (hρ _ _ ha) (hρ _ _ hv)
       obtain⟨off,rfl⟩:∃off,a=.ptr A off:=by
        unfold wIB at hs;split at hs
        case h_2=>cases hs
        case h_1 A' off=>
         (repeat' (split at hs))<;>first|(cases hs;done)|skip
         rename_i n _;cases hbq:Nat.beq v.cells.length n with
         |false=>simp_all
         | true=>
          rw[hbq]at hs;simp only[cond_true]at hs;unfold wA8 at hs;cases hro:Nat.ble ro A' with
          |false=>simp_all
          |true=>
           rw[hro]at hs;simp only[cond_true]at hs;split at hs
           ·rename_i cs' hg;obtain⟨rfl,_⟩:=wNA hg;exact⟨off,rfl⟩
           grind
       have hd:fr.roundOf=none∨∀q,o.op≠.defer q:=.inr fun q hq=>by simp_all
       have hrun:(execOp fr.eval o).run P w=.ok .skip w':=by simp_all [execOp]
       have:=st_unit (P:=P) (cs:=cs) hm ht ho (hwc hT) hd hrun;rw[fin ht]at this;obtain⟨B,s,n⟩:=x;obtain⟨y,hy,hbn⟩:=h2.h A new hnew;rw[hφ]at hy;cases hy;exact⟨_,w',.one this,hT.put hdst (.tup .nil),hbn,h4 A off B s n rfl hφ,h3⟩
end
end Go.Ev
