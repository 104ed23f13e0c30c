/- Our own library, part 7. -/
import Derived.Laws.IdiomStrings
import Derived.Laws.BytesString
import Derived.Test.YtccoogikjelcbaaGreatDoorM06
set_option maxHeartbeats 8000000
set_option maxRecDepth 800
set_option linter.all false
namespace Am
open Go
section
variable {P:Program} {C:Cx} {m:Mp} {h:H} {w:World} {e:Env} {t:Array Value} {o:Oper} {v:V}
theorem jk4 (hT:TOk P C) (hG:GOk C m) (hr:HRel P C m h w) (he:ERel m e t) {a:Opd} {a':Operand} {ty:TypeId} (ho:o.op = .load ty a') (ha:opdM C a a'=true) (hp:jc3 C ty none=true)
  (hv:I.read e h (.load1 a)=some v):jay P m t o v w:=by
 simp only [I.read] at hv
 split at hv
 ·next b off h1=>
  split at hv
  ·next u hu=>
   cases hv
   obtain ⟨l,hl,e1⟩:=jab (t:=t) hG he ha h1
   obtain ⟨x,h2,h3⟩:=jh9 hr hu hl
   refine ⟨x,?_,h3⟩
   simp only [execOp,ho,zF,Instr.loadAt,e1,Instr.sureAddr,zH,zG,loadVar,jda hT hp]
   simp only [zB,if_false]
   rw [h2]
   rfl
  ·cases hv
 ·cases hv
theorem jk3 (hT:TOk P C) (hG:GOk C m) (hr:HRel P C m h w) (he:ERel m e t) {n:Nat} {a:Opd} {a':Operand} {ty:TypeId} (ho:o.op = .load ty a') (ha:opdM C a a'=true) (hp:jc3 C ty (some n)=true)
  (hv:I.read e h (.loadN n a)=some v):jay P m t o v w:=by
 simp only [I.read] at hv
 split at hv
 ·next b off h1=>
  split at hv
  ·next u hu=>
   cases hv
   obtain ⟨l,hl,e1⟩:=jab (t:=t) hG he ha h1
   obtain ⟨xs,h2,h3⟩:=jgl hr hu hl
   obtain ⟨h4,h5⟩:=jcZ hT hp w
   refine ⟨.agg xs,?_,xs,rfl,h3⟩
   simp only [execOp,ho,zF,Instr.loadAt,e1,Instr.sureAddr,zH,zG,loadVar,h4,if_true,h5,h2]
  ·cases hv
 ·cases hv
theorem jdr (hT:TOk P C) {ty:TypeId} (h:jew C ty=true) : ∃ el,P.underlying ty=some (.slice el)/\P.underlying el=some (.int .u8):=by
 obtain ⟨u,dd,h1,h2,h3⟩:=ja5 hT h
 cases u<;>simp at h1
 cases dd<;>simp [jaf] at h3
 subst h3
 obtain ⟨u',dd',h4,h5,h6⟩:=ja5 hT h1
 refine ⟨_,h2,?_⟩
 cases u' with
 | int k=>
  cases k<;>simp at h4
  cases dd'<;>simp [jaf] at h6
  subst h6;exact h5
 | _=>simp at h4
theorem jlc {a:V} {x:Value} {b:UInt8} (h:VRel m a x) (hb:jhX a=some b):x = .int .u8 (b.toNat:Int):=by
 cases a with
 | int k n=>
  cases k<;>simp only [jhX,zt] at hb<;>try (cases hb;done)
  split at hb
  ·next hn=>
   cases hb
   have:=jcm.1 hn
   rw [show x=_ from h]
   congr 1
   simp [UInt8.toNat_ofNat']
   omega
  ·cases hb
 | _=>simp [jhX] at hb
theorem jex : ∀ {l:List V} {s:List UInt8},bytesOf l=some s->l.length=s.length /\ ∀ (k:Nat) (b:UInt8),s[k]?=some b -> ∃ a,l[k]?=some a/\jhX a=some b
 | [],s,hb=>by simp [bytesOf] at hb;subst hb;exact ⟨rfl,by simp⟩
 | a :: l,s,hb=>by
  simp only [bytesOf] at hb
  split at hb
  ·next b s' hb1 hb2=>
   cases hb
   obtain ⟨h1,h2⟩:=jex hb2
   refine ⟨by simp [h1],fun k c hk=>?_⟩
   cases k with
   | zero=>simp at hk;subst hk;exact ⟨a,rfl,hb1⟩
   | succ k=>simpa using h2 k c (by simpa using hk)
  ·cases hb
theorem jhq (hT:TOk P C) (hG:GOk C m) (hr:HRel P C m h w) (he:ERel m e t) {a:Opd} {a':Operand} {s d:TypeId} (ho:o.op = .convert s d a') (ha:opdM C a a'=true) (hs:jew C s=true)
  (hd:isU C d (fun | .str=>true | _=>false)=true) (hv:I.read e h (.ofBytes a)=some v):jay P m t o v w:=by
 obtain ⟨el,hs1,hs2⟩:=jdr hT hs
 obtain ⟨u,dd,h2,h3,h4⟩:=ja5 hT hd
 cases u<;>simp at h2
 cases dd<;>simp [jaf] at h4
 simp only [I.read] at hv
 split at hv
 ·next n c h1=>
  cases hv
  obtain ⟨_,_,e1⟩:=jab (t:=t) hG he ha h1
  refine ⟨.string ⟨⟨[]⟩⟩,?_,rfl⟩
  simp only [execOp,ho,zF,e1]
  rw [run_convert_bytes_string w s d el none 0 0 hs1 hs2 h3]
  rfl
 ·next b off n c h1=>
  obtain ⟨l,o',c',hl,e1,h5,h6,_⟩:=jab (t:=t) hG he ha h1
  simp only [zt,beq_iff_eq] at hv
  split at hv
  ·next hn=>
   cases hv
   subst hn
   refine ⟨.string ⟨⟨[]⟩⟩,?_,rfl⟩
   simp only [execOp,ho,zF,e1]
   have:=run_convert_bytes_back w s d el o' c' [] hs1 hs2 h3 Zb
   simp only [List.length_nil] at this
   rw [this]
   rfl
  ·next hn=>
   split at hv
   ·next vs hvs=>
    split at hv
    ·next bs hbs=>
     cases hv
     obtain ⟨g1,g2⟩:=jex hbs
     have hlen:=jdZ hvs
     obtain ⟨vs0,ro,k1,k2,k3⟩:=jde hvs
     have ho':=h6 om
     subst ho'
     refine ⟨.string ⟨⟨bs⟩⟩,?_,rfl⟩
     simp only [execOp,ho,zF,e1]
     have hnb:n=bs.length:=by omega
     subst hnb
     rw [run_convert_bytes_back w s d el ⟨l.β,l.d+off,none⟩ c' bs hs1 hs2 h3 (fun j hj=>by
      obtain ⟨a0,q1,q2⟩:=g2 j bs[j] (za hj)
      have q3:vs0[off+j]?=some a0:=by
       rw [k3,zx,zg om,zk] at q1
       exact q1
      obtain ⟨x,q4,q5⟩:=hr.cell k1 hl q3
      rw [jbf,Nat.add_assoc,q4,jlc q5 q2])]
     rfl
    ·cases hv
   ·cases hv
 ·cases hv
theorem jlN (hG:GOk C m) (he:ERel m e t) {a:Opd} {c:Go.Call} (hx:ja1 C [a] c.args.toList=true) {u:V} (hu:a.ev e=some u) : ∃ x,(c.args.map (evT t))[0]?=some x/\VRel m u x:=by
 obtain ⟨a',hargs,ha⟩ : ∃ a',c.args.toList=[a']/\opdM C a a'=true:=by
  match hq:c.args.toList,hx with
  | [a'],hx=>exact ⟨a',rfl,by simpa [ja1] using hx⟩
  | [],hx=>simp [ja1] at hx
  | _ :: _ :: _,hx=>simp [ja1] at hx
 refine ⟨evT t a',?_,jab hG he ha hu⟩
 have:(c.args.map (evT t)).toList=[evT t a']:=by simp [hargs]
 rw [<- Array.getElem?_toList,this];rfl
theorem jgH (hT:TOk P C) {ts:Array TypeId} {f:UD->Bool} (hA:argT C ts 0 f=true) : ∃ ty u d,ts[0]?=some ty/\f u=true/\P.underlying ty=some d/\jaf u d=true:=by
 unfold argT at hA
 split at hA
 ·next ty hty=>
  obtain ⟨u,dd,h1,h2,h3⟩:=ja5 hT hA
  exact ⟨ty,u,dd,hty,h1,h2,h3⟩
 ·cases hA
theorem jlD {c:Go.Call} (ho:o.op = .call c) (hc:c.callee = .builtin .len) {x:Value} {w w':World} (h:(Builtin.len_ c.argTypes o.type (c.args.map (evT t))).run P w = .ok x w') :
  (execOp (evT t) o).run P w = .ok (.value x) w':=by
 simp only [execOp,ho,zF,resolve,hc,zG,zH,invoke,builtin,h]
theorem pure_lenS (hT:TOk P C) (hG:GOk C m) (he:ERel m e t) {a:Opd} {c:Go.Call} (ho:o.op = .call c) (hc:c.callee = .builtin .len) (hx:ja1 C [a] c.args.toList=true)
  (hA:argT C c.argTypes 0 (fun | .str=>true | _=>false)=true) (hv:I.pure e (.lenS a)=some v) (w:World):jay P m t o v w:=by
 obtain ⟨ty,u,dd,h1,h2,h3,h4⟩:=jgH hT hA
 simp only [I.pure] at hv
 split at hv
 ·next s hs=>
  cases hv
  obtain ⟨x,h5,h6⟩:=jlN (t:=t) hG he hx hs
  rw [show x = .string ⟨⟨s⟩⟩ from h6] at h5
  cases u<;>simp at h2
  cases dd<;>simp [jaf] at h4
  refine ⟨.int .i64 s.length,jlD ho hc ?_,rfl⟩
  simp only [Builtin.len_,h1,h5,zF,zI h3,zG,zH,goInt]
  simp [ByteArray.size]
 ·cases hv
theorem pure_lenL (hT:TOk P C) (hG:GOk C m) (he:ERel m e t) {a:Opd} {c:Go.Call} (ho:o.op = .call c) (hc:c.callee = .builtin .len) (hx:ja1 C [a] c.args.toList=true)
  (hA:argT C c.argTypes 0 (fun | .slice _=>true | _=>false)=true) (hv:I.pure e (.lenL a)=some v) (w:World):jay P m t o v w:=by
 obtain ⟨ty,u,dd,h1,h2,h3,h4⟩:=jgH hT hA
 simp only [I.pure] at hv
 split at hv
 ·next p n cp hs=>
  cases hv
  obtain ⟨x,h5,h6⟩:=jlN (t:=t) hG he hx hs
  have e1 : ∃ q c',x = .slice q n c':=by
   cases p with
   | none=>obtain ⟨rfl,_,e1⟩:=h6;exact ⟨_,_,e1⟩
   | some q=>obtain ⟨_,_,_,_,e1,_⟩:=h6;exact ⟨_,_,e1⟩
  obtain ⟨q,c',rfl⟩:=e1
  cases u<;>simp at h2
  cases dd<;>simp [jaf] at h4
  refine ⟨.int .i64 n,jlD ho hc ?_,rfl⟩
  simp only [Builtin.len_,h1,h5,zF,zI h3,zG,zH,goInt]
 ·cases hv
theorem jad.length : ∀ {l:List (V × V × Nat)} {es:List MapEntry},jad m l es->l.length=es.length
 | [],_,h=>by rw [show _=[] from h];rfl
 | (_,_,_) :: _,_,⟨x,s,e,_,_,_,h5⟩=>by subst e;simp [h5.length]
theorem jiI (hr:HRel P C m h w) {r:Nat} {es:List (V × V × Nat)} {c:Nat} (hm:h.map? r=some (es,c)) {l:Loc} (hl:m r=some l) :
  h.get r=some (.map es c) /\ ∃ ces,w.heap[l.β]?=some (.map ces c)/\jad m es ces.toList:=by
 unfold H.map? at hm
 split at hm
 ·next es' c' hg=>
  cases hm
  obtain ⟨l',co,h1,h2,ces,rfl,h3⟩:=hr.obj r _ hg
  rw [hl] at h1;cases h1
  exact ⟨hg,ces,h2,h3⟩
 ·cases hm
theorem jaC {r c:Nat} {ces:Array MapEntry} (hb:w.heap[r]?=some (.map ces c)):(getObj r).run P w = .ok (.map ces c) w:=by
 simp [getObj,Sem.run,hb]
theorem jiL (hT:TOk P C) {ks:KS} {kt:TypeId} (hk:ksM C ks kt=true) : ∃ i,C.T.at_ kt=some i/\((∃ lk,ks = .leaf lk/\jbF i.u=false/\jaS C 20 kt=some [lk])\/(∃ sh,ks = .agg sh/\jbF i.u=true/\jaS C 20 kt=some sh)):=by
 unfold ksM at hk
 split at hk
 ·next i hi=>
  refine ⟨i,hi,?_⟩
  cases ks with
  | leaf lk=>simp at hk;exact .inl ⟨lk,rfl,hk.1,hk.2⟩
  | agg sh=>simp at hk;exact .inr ⟨sh,rfl,hk.1,hk.2⟩
 ·cases hk
theorem jhD (hT:TOk P C) {ks:KS} {kt:TypeId} (hk:ksM C ks kt=true) {a b:V} {x y:Value} {r:Bool} (ha:VRel m a x) (hb:VRel m b y) (hq:jeI ks a b=some r) (w:World) :
  (Op.equal kt x y).run P w = .ok r w:=by
 obtain ⟨i,hi,h1 | h1⟩:=jiL hT hk
 ·obtain ⟨lk,rfl,hna,hsh⟩:=h1
  obtain ⟨hl,hE⟩:=jbP (P:=P) (m:=m) hT 20 kt i _ hi hsh
  have hs1:i.size=1:=by rw [<- hl];rfl
  have ha':jah m [a] (#[x]:Array Value).toList:=⟨x,[],rfl,ha,rfl⟩
  have hb':jah m [b] (#[y]:Array Value).toList:=⟨y,[],rfl,hb,rfl⟩
  obtain ⟨x',y',h2,h3,h4⟩:=hE [a] [b] #[x] #[y] 0 r ha' hb' (by simp [hs1]) (by simp [hs1]) (by
   simp only [jeI] at hq
   simp [hs1,jat,hq]) 10000 om w
  simp [Go.part,ja6 hT hi,hna] at h2 h3
  subst h2 h3
  exact h4
 ·obtain ⟨sh,rfl,hag,hsh⟩:=h1
  obtain ⟨hl,hE⟩:=jbP (P:=P) (m:=m) hT 20 kt i _ hi hsh
  cases a<;>cases b<;>simp [jeI] at hq
  next xs ys=>
  obtain ⟨as,rfl,ha⟩:=ha
  obtain ⟨bs,rfl,hb⟩:=hb
  have hlx:xs.length=sh.length/\ys.length=sh.length:=jbp hq
  have hpart : ∀ (l:List V) (zs:Array Value),jah m l zs.toList->l.length=i.size->(Go.part kt zs 0).run P w = .ok (.agg zs) w:=by
   intro l zs hz hlen
   have hsz:jaz C kt i.size=true:=by unfold jaz;rw [hi];exact beqT _
   have:zs.size=i.size:=by have:=hz.length;simp at this;omega
   have h0:zs.extract 0 i.size=zs:=by rw [<- this];simp
   simp [Go.part,ja6 hT hi,hag,jam hT hsz,h0]
  obtain ⟨x',y',h2,h3,h4⟩:=hE xs ys as bs 0 r ha hb om om (by
   rw [zi,zi,zf om,zf om];exact hq) 10000 om w
  rw [hpart xs as ha om] at h2
  rw [hpart ys bs hb om] at h3
  cases h2;cases h3
  exact h4
def jjl (m:Mp) (es:List (V × V × Nat)) (i:Nat):Option (Nat × V × Nat)->Option (Nat × Value)->Prop
 | none,r'=>r'=none
 | some (j,v,b),r'=>i<=j/\(∃ key,es[j-i]?=some (key,v,b)) /\ ∃ y,r'=some (j,y)/\VRel m v y
theorem jcu (hT:TOk P C) {ks:KS} {kt:TypeId} (hk:ksM C ks kt=true) {k:V} {x:Value} (hx:VRel m k x) (w:World) : ∀ {es:List (V × V × Nat)} {ces:List MapEntry} (i:Nat) {r:Option (Nat × V × Nat)},
  jad m es ces->findKey ks k es i=some r -> ∃ r',(Instr.findAsking kt x ces i).run P w = .ok r' w/\jjl m es i r r'
 | [],_,i,r,he,hf=>by
  rw [show _=[] from he]
  simp [findKey] at hf;subst hf
  exact ⟨none,by simp [Instr.findAsking],rfl⟩
 | (key,v,b) :: es,_,i,r,⟨ce,s,e,h1,h2,h3,h4⟩,hf=>by
  subst e
  simp only [findKey] at hf
  split at hf
  ·next hq=>
   cases hf
   refine ⟨some (i,ce.val),?_,zn _,⟨key,by simp⟩,ce.val,rfl,h2⟩
   simp only [Instr.findAsking,zF,jhD hT hk hx h1 hq,zG,if_true,zH]
  ·next hq=>
   obtain ⟨r',h5,h6⟩:=jcu hT hk hx w (i+1) h4 hf
   refine ⟨r',?_,?_⟩
   ·simp only [Instr.findAsking,zF,jhD hT hk hx h1 hq,zG,zB,if_false,h5]
   ·cases r with
    | none=>exact h6
    | some q=>
     obtain ⟨j,v',b'⟩:=q
     obtain ⟨h7,⟨key',h8⟩,h9⟩:=h6
     refine ⟨by omega,⟨key',?_⟩,h9⟩
     rw [show j-i=(j-(i+1))+1 by omega]
     simpa using h8
  ·cases hf
theorem jcF {d:TypeDesc} {kt:TypeId} (hd:P.underlying kt=some d) {x y:Value} {b:Bool} (h:Instr.sameNow d x y=some b) (w:World):(Op.equal kt x y).run P w = .ok b w:=by
 unfold Instr.sameNow at h
 split at h
 ·split at h
  ·next hk=>cases h;subst hk;exact run_equalIn_int w 9999 kt _ _ _ _ hd
  ·cases h
 ·cases h;exact (run_equalIn_string w 9999 kt _ _ hd).trans (by simp [beq_toListBytes])
 ·cases h;exact run_equalIn_bool' w 9999 kt _ _ hd
 ·cases h
theorem jct {d:TypeDesc} {kt:TypeId} (hd:P.underlying kt=some d) (x:Value) (w:World) : ∀ (ces:List MapEntry) (i:Nat) (r:Option (Nat × Value)),Instr.findNow d x ces i=some r->(Instr.findAsking kt x ces i).run P w = .ok r w
 | [],i,r,h=>by simp [Instr.findNow] at h;subst h;simp [Instr.findAsking]
 | ce :: ces,i,r,h=>by
  simp only [Instr.findNow] at h
  split at h
  ·next hs=>
   cases h
   simp only [Instr.findAsking,zF,jcF hd hs,zG,if_true,zH]
  ·next hs=>
   simp only [Instr.findAsking,zF,jcF hd hs,zG,zB,if_false]
   exact jct hd x w ces (i+1) r h
  ·cases h
theorem jjh (hT:TOk P C) {ks:KS} {kt:TypeId} (hk:ksM C ks kt=true) {k:V} {x:Value} (hx:VRel m k x) (w:World) {es:List (V × V × Nat)} {ces:List MapEntry} {r:Option (Nat × V × Nat)}
  (he:jad m es ces) (hf:findKey ks k es 0=some r) : ∃ r',(Instr.findKey kt x ces).run P w = .ok r' w/\jjl m es 0 r r':=by
 obtain ⟨i,hi,_⟩:=jiL hT hk
 obtain ⟨info,d,F⟩:=hT.facts hi
 obtain ⟨r',h1,h2⟩:=jcu hT hk hx w 0 he hf
 refine ⟨r',?_,h2⟩
 simp only [Instr.findKey,zF,zI F.und,zG]
 split
 ·next r0 hr0=>
  have:=jct F.und x w ces 0 r0 hr0
  rw [h1] at this
  cases this
  rfl
 ·exact h1
end
end Am
namespace Am
open Go
section
variable {P:Program} {C:Cx} {m:Mp} {h:H} {w:World} {e:Env} {t:Array Value} {o:Oper} {v:V}
def CkOk (P:Program) (n:Nat) (ty:TypeId) (size:Nat):Prop :=
 ∀ (xs:Array Value) (off:Nat),off+size<=xs.size -> ∀ d,n<=d -> ∀ (em:Bool) (w:World),∃ x,(Go.part ty xs off).run P w = .ok x w/\(Instr.checkKey em d ty x).run P w = .ok () w
theorem jeP (n size:Nat) : ∀ (fs:List (Nat × TypeId)) (q:Nat) (s:List LK),jbk C (jaS C n) q size fs=some s->q<=size
 | [],q,s,h=>by
  simp only [jbk,zt,nbeq,zq] at h
  split at h
  ·omega
  ·cases h
 | (p1,p2) :: fs,q,s,h=>by
  simp only [jbk] at h
  split at h
  ·next j _ _ f1 _ f3=>rw [f1] at f3;have:=jeP n size fs _ _ f3;omega
  ·cases h
theorem jcH (n size:Nat) (H : ∀ ty i sh,C.T.at_ ty=some i->jaS C n ty=some sh->CkOk P n ty i.size) {xs:Array Value} (hx:xs.size=size) {d:Nat} (hd:n<=d) (em:Bool) :
  ∀ (fs:List (Nat × TypeId)) (gs:List Field) (off:Nat) (sh:List LK) (w:World),jbk C (jaS C n) off size fs=some sh->jaD fs gs=true ->
  (forIn (m:=Sem) gs () fun (f:Field) _=>
   if f.name ≠ "_" then do
    let a<-Go.part f.type xs f.offset
    Instr.checkKey em d f.type a
    pure (ForInStep.yield ())
   else pure (ForInStep.yield ())).run P w = .ok () w
 | [],[],_,_,_,_,_=>by simp
 | [],_ :: _,_,_,_,_,h=>by simp [jaD] at h
 | _ :: _,[],_,_,_,_,h=>by simp [jaD] at h
 | (o1,ty) :: fs,f :: gs,off,sh,w,hs,hf=>by
  simp only [jaD,zm,nbeq,zq,bne_iff_ne] at hf
  simp only [jbk] at hs
  split at hs
  ·next i a b e1 e2 e3=>
   rw [e1] at e3
   dsimp only at e3
   simp only [zt,nbeq,zq] at hs
   split at hs
   ·next ho=>
    cases hs
    have hle:=jeP n size fs _ _ e3
    obtain ⟨x,h1,h2⟩:=H ty i a e1 e2 xs off om d hd em w
    have hft:f.type=ty:=hf.1.1.2.symm
    have hfo:f.offset=off:=hf.1.1.1.symm.trans ho
    rw [List.forIn_cons]
    simp only [zF,Sem.run_ite]
    rw [zg hf.1.2]
    simp only [zF,hft,hfo,h1,h2,zG,zH]
    exact jcH n size H hx hd em fs gs _ b w e3 hf.2
   ·cases hs
  ·cases hs
theorem je6 {k:Nat} {ty el:TypeId} {esz:Nat} (hT:TOk P C) (hu:P.underlying ty=some (.array k el)) (hsz:jaz C el esz=true) {n:Nat} (hE:CkOk P n el esz)
  {xs:Array Value} (hx:xs.size=k*esz) (d:Nat) (hd:n<=d) (em:Bool) (w:World):(Instr.checkKey em (d+1) ty (.agg xs)).run P w = .ok () w:=by
 simp only [Instr.checkKey,zF,zI hu,zG]
 rw [Std.Legacy.Range.forIn_eq_forIn_range']
 simp only [Std.Legacy.Range.size,Nat.sub_zero,Nat.add_sub_cancel,Nat.div_one]
 have key : ∀ (q j:Nat),j+q=k -> ∀ w,(forIn (m:=Sem) (List.range' j q 1) () fun (i:Nat) _=>do
    let s<-Go.sizeOf el
    let x<-Go.part el xs (i*s)
    Instr.checkKey em d el x
    pure (ForInStep.yield ())).run P w = .ok () w:=by
  intro q
  induction q with
  | zero=>intro j _ w;simp
  | succ q ih=>
   intro j hj w
   have hjk:j*esz+esz<=k*esz:=by
    have:(j+1)*esz<=k*esz:=Nat.mul_le_mul_right _ om
    rw [Nat.add_mul] at this;omega
   obtain ⟨x,h1,h2⟩:=hE xs (j*esz) om d hd em w
   rw [List.range'_succ,List.forIn_cons]
   simp only [zF,jam hT hsz,h1,h2,zG,zH]
   exact ih (j+1) om w
 rw [key k 0 om w]
 rfl
theorem jdF (hT:TOk P C) : ∀ (n:Nat) (ty:TypeId) (i:TI) (sh:List LK),C.T.at_ ty=some i->jaS C n ty=some sh->CkOk P n ty i.size
 | 0,_,_,_,_,h=>by simp [jaS] at h
 | n+1,ty,i,sh,hi,h=>by
  obtain ⟨info,dd,F⟩:=hT.facts hi
  have hud:=F.ud
  have hund:=F.und
  simp only [jaS,hi] at h
  intro xs off hoff d hd em w
  obtain ⟨d,rfl⟩ : ∃ d',d=d'+1:=⟨d-1,by omega⟩
  have leaf:i.size=1->jbF i.u=false->(∀ x,(Instr.checkKey em (d+1) ty x).run P w = .ok () w) -> ∃ x,(Go.part ty xs off).run P w = .ok x w/\(Instr.checkKey em (d+1) ty x).run P w = .ok () w:=by
   intro hs hna hc
   have:xs[off]?=some xs[off]:=Array.getElem?_eq_getElem om
   exact ⟨xs[off],by simp [Go.part,ja6 hT hi,hna,this],hc _⟩
  have ex : ∀ zs:Array Value,off+i.size<=zs.size->(zs.extract off (off+i.size)).size=i.size:=by intro zs hz;simp;omega
  have agg:jbF i.u=true->(Go.part ty xs off).run P w = .ok (.agg (xs.extract off (off+i.size))) w:=by
   intro hag
   have hsz:jaz C ty i.size=true:=by unfold jaz;rw [hi];exact beqT _
   simp [Go.part,ja6 hT hi,hag,jam hT hsz]
  cases hu:i.u with
  | bool=>
   rw [hu] at h hud;simp only [zt,nbeq,zq] at h
   split at h
   ·next hs=>
    cases hd':dd<;>rw [hd'] at hud<;>simp only [jaf] at hud<;>try (cases hud;done)
    rw [hd'] at hund
    exact leaf hs (by rw [hu];rfl) (fun x=>by simp only [Instr.checkKey,zF,zI hund,zG,zH])
   ·cases h
  | int k=>
   rw [hu] at h hud;simp only [zt,nbeq,zq] at h
   split at h
   ·next hs=>
    cases hd':dd<;>rw [hd'] at hud<;>simp only [jaf] at hud<;>try (cases hud;done)
    rw [hd'] at hund
    exact leaf hs (by rw [hu];rfl) (fun x=>by simp only [Instr.checkKey,zF,zI hund,zG,zH])
   ·cases h
  | str=>
   rw [hu] at h hud;simp only [zt,nbeq,zq] at h
   split at h
   ·next hs=>
    cases hd':dd<;>rw [hd'] at hud<;>simp only [jaf] at hud<;>try (cases hud;done)
    rw [hd'] at hund
    exact leaf hs (by rw [hu];rfl) (fun x=>by simp only [Instr.checkKey,zF,zI hund,zG,zH])
   ·cases h
  | struct fs=>
   rw [hu] at h hud;simp only [zt] at h
   split at h
   ·next he=>
    cases hd':dd<;>rw [hd'] at hud<;>simp only [jaf] at hud<;>try (cases hud;done)
    next gs=>
    rw [hd'] at hund
    refine ⟨_,agg (by rw [hu];rfl),?_⟩
    simp only [Instr.checkKey,zF,zI hund,zG]
    rw [<- Array.forIn_toList]
    have:=jcH (P:=P) n i.size (fun ty' i' sh' a b=>jdF hT n ty' i' sh' a b) (ex xs hoff) (d:=d) om em fs gs.toList 0 sh w h hud
    rw [this]
    rfl
   ·cases h
  | array k el=>
   rw [hu] at h hud
   dsimp only at h
   split at h
   ·next j sh' hj hsh=>
    simp only [zt,zm,nbeq,zq] at h
    split at h
    ·next hc=>
     obtain ⟨he,hs⟩:=hc
     cases hd':dd<;>rw [hd'] at hud<;>simp only [jaf,zm,nbeq,zq] at hud<;>try (cases hud;done)
     next k' el'=>
     obtain ⟨rfl,rfl⟩:=hud
     have hesz:jaz C el j.size=true:=by unfold jaz;rw [hj];exact beqT _
     refine ⟨_,agg (by rw [hu];rfl),?_⟩
     exact je6 hT (by rw [hund,hd']) hesz (jdF hT n el j sh' hj hsh) (by rw [ex xs hoff,hs]) d om em w
    ·cases h
   ·cases h
  | _=>rw [hu] at h;cases h
theorem jhW (hT:TOk P C) {ks:KS} {kt:TypeId} (hk:ksM C ks kt=true) {k:V} {x:Value} (hx:VRel m k x) (hq:(jeI ks k k).isSome=true) (em:Bool) (w:World) :
  (Instr.checkKey em 10000 kt x).run P w = .ok () w:=by
 obtain ⟨r,hr⟩:=Option.isSome_iff_exists.1 hq
 obtain ⟨i,hi,h1 | h1⟩:=jiL hT hk
 ·obtain ⟨lk,rfl,hna,hsh⟩:=h1
  have hC:=jdF hT 20 kt i _ hi hsh
  have hs1:i.size=1:=by rw [<- (jbP (P:=P) (m:=m) hT 20 kt i _ hi hsh).1];rfl
  obtain ⟨x',h2,h3⟩:=hC #[x] 0 (by simp [hs1]) 10000 om em w
  simp [Go.part,ja6 hT hi,hna] at h2
  subst h2;exact h3
 ·obtain ⟨sh,rfl,hag,hsh⟩:=h1
  have hC:=jdF hT 20 kt i _ hi hsh
  have hl:=(jbP (P:=P) (m:=m) hT 20 kt i _ hi hsh).1
  cases k<;>simp [jeI] at hr
  next ks=>
  obtain ⟨as,rfl,ha⟩:=hx
  have hlen:=jbp hr
  have hsz:as.size=i.size:=by have:=ha.length;simp at this;omega
  obtain ⟨x',h2,h3⟩:=hC as 0 om 10000 om em w
  have h0:as.extract 0 i.size=as:=by rw [<- hsz];simp
  have hszM:jaz C kt i.size=true:=by unfold jaz;rw [hi];exact beqT _
  simp [Go.part,ja6 hT hi,hag,jam hT hszM,h0] at h2
  subst h2;exact h3
theorem jbu (hT:TOk P C) {ks:KS} {kt:TypeId} (hk:ksM C ks kt=true) {k:V} {x:Value} (hx:VRel m k x) (w:World) {es:List (V × V × Nat)} {ces:List MapEntry} {r:Option (Nat × V × Nat)}
  (he:jad m es ces) (hf:jdq ks k es=some r):(∀ em w,(Instr.checkKey em 10000 kt x).run P w = .ok () w) /\ ∃ r',(Instr.findKey kt x ces).run P w = .ok r' w/\jjl m es 0 r r':=by
 unfold jdq at hf
 simp only [zt] at hf
 split at hf
 ·next hq=>exact ⟨fun em w=>jhW hT hk hx hq em w,jjh hT hk hx w he hf⟩
 ·cases hf
theorem jjB (hT:TOk P C) {ty:TypeId} {f:UD->Bool} (hu:isU C ty f=true) (hf : ∀ u,f u=true -> ∃ a b,u = .map a b) : ∃ kt et,f (.map kt et)=true/\P.underlying ty=some (.map kt et):=by
 obtain ⟨u,dd,h1,h2,h3⟩:=ja5 hT hu
 obtain ⟨a,b,rfl⟩:=hf u h1
 cases dd<;>simp [jaf] at h3
 obtain ⟨rfl,rfl⟩:=h3
 exact ⟨_,_,h1,h2⟩
theorem ji7 (hT:TOk P C) (hG:GOk C m) (hr:HRel P C m h w) (he:ERel m e t) {ks:KS} {z:V} {ok:Bool} {a k:Opd} {a' k':Operand} {ty:TypeId} (ho:o.op = .lookup ty a' k' ok) (ha:opdM C a a'=true) (hk:opdM C k k'=true)
  (hu:isU C ty (fun | .map kt e=>jmx C e z&&ksM C ks kt | _=>false)=true) (hv:I.read e h (.lookup ks z ok a k)=some v):jay P m t o v w:=by
 obtain ⟨kt,et,h1,h2⟩:=jjB hT hu (fun u hf=>by cases u<;>simp at hf;exact ⟨_,_,rfl⟩)
 simp only [zm] at h1
 obtain ⟨hz,hks⟩:=h1
 obtain ⟨zv,hz1,hz2⟩:=zeroM_run hT hz m
 simp only [I.read] at hv
 split at hv
 ·next kv g1 g2=>
  have e1:evT t a' = .map none:=jab hG he ha g1
  have hkv:=jab (t:=t) hG he hk g2
  split at hv
  ·next r hf=>
   obtain ⟨hc,r',h3,h4⟩:=jbu hT hks hkv w (es:=[]) (ces:=[]) rfl hf
   have hr':r'=none:=by
    cases r with
    | none=>exact h4
    | some q=>obtain ⟨_,_,_⟩:=q;obtain ⟨_,⟨_,hh⟩,_⟩:=h4;simp at hh
   subst hr'
   have hrun:(execOp (evT t) o).run P w = .ok (.value (if ok then .tuple #[zv,.bool false] else zv)) w:=by
    simp only [execOp,ho,zF,Instr.lookup,zI h2,zG,e1,zH,hc,h3,hz1]
   cases ok
   ·cases hv;exact ⟨_,hrun,hz2⟩
   ·cases hv;exact ⟨_,hrun,_,rfl,_,_,rfl,hz2,_,_,rfl,rfl,rfl⟩
  ·cases hv
 ·next r kv g1 g2=>
  obtain ⟨l,hl,e1⟩:=jab (t:=t) hG he ha g1
  have hkv:=jab (t:=t) hG he hk g2
  split at hv
  ·next es cl hm=>
   obtain ⟨_,ces,h7,h8⟩:=jiI hr hm hl
   split at hv
   ·next j u b hf=>
    obtain ⟨hc,r',h3,h4⟩:=jbu hT hks hkv w h8 hf
    obtain ⟨_,_,y,rfl,hy⟩:=h4
    have hrun:(execOp (evT t) o).run P w = .ok (.value (if ok then .tuple #[y,.bool true] else y)) w:=by
     simp only [execOp,ho,zF,Instr.lookup,zI h2,zG,e1,jaC h7,zH,hc,h3]
    cases ok
    ·cases hv;exact ⟨_,hrun,hy⟩
    ·cases hv;exact ⟨_,hrun,_,rfl,_,_,rfl,hy,_,_,rfl,rfl,rfl⟩
   ·next hf=>
    obtain ⟨hc,r',h3,h4⟩:=jbu hT hks hkv w h8 hf
    have h4':r'=none:=h4
    subst h4'
    have hrun:(execOp (evT t) o).run P w = .ok (.value (if ok then .tuple #[zv,.bool false] else zv)) w:=by
     simp only [execOp,ho,zF,Instr.lookup,zI h2,zG,e1,jaC h7,zH,hc,h3,hz1]
    cases ok
    ·cases hv;exact ⟨_,hrun,hz2⟩
    ·cases hv;exact ⟨_,hrun,_,rfl,_,_,rfl,hz2,_,_,rfl,rfl,rfl⟩
   ·cases hv
  ·cases hv
 ·cases hv
end
end Am
