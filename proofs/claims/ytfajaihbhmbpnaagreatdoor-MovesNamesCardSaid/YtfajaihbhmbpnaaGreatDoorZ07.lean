/- Our own library, part 7. -/
import Derived.Laws.IdiomStrings
import Derived.Laws.BytesString
import Derived.Test.YtfajaihbhmbpnaaGreatDoorZ06
set_option maxHeartbeats 8000000
set_option maxRecDepth 800
set_option linter.all false
namespace Am
open Go
section
variable {P:Program} {C:Cx} {m:Mp} {h:H} {w:World} {e:Env} {t:Array Value} {o:Oper} {v:V}
theorem jft (hT:TOk P C) (hG:GOk C m) (hr:HRel P C m h w) (he:ERel m e t) {a:Opd} {a':Operand} {ty:TypeId} (ho:o.op = .load ty a') (ha:opdM C a a'=true) (hp:jbY C ty none=true)
  (hv:I.read e h (.load1 a)=some v):jap P m t o v w:=by
 simp only [I.read] at hv
 split at hv
 ·next b off h1=>
  split at hv
  ·next u hu=>
   cases hv
   obtain ⟨l,hl,e1⟩:=jaa (t:=t) hG he ha h1
   obtain ⟨x,h2,h3⟩:=jej hr hu hl
   refine ⟨x,?_,h3⟩
   simp only [execOp,ho,zF,Instr.loadAt,e1,Instr.sureAddr,zH,zG,loadVar,jbX hT hp]
   simp only [zA,if_false]
   rw [h2]
   rfl
  ·cases hv
 ·cases hv
theorem jfs (hT:TOk P C) (hG:GOk C m) (hr:HRel P C m h w) (he:ERel m e t) {n:Nat} {a:Opd} {a':Operand} {ty:TypeId} (ho:o.op = .load ty a') (ha:opdM C a a'=true) (hp:jbY C ty (some n)=true)
  (hv:I.read e h (.loadN n a)=some v):jap P m t o v w:=by
 simp only [I.read] at hv
 split at hv
 ·next b off h1=>
  split at hv
  ·next u hu=>
   cases hv
   obtain ⟨l,hl,e1⟩:=jaa (t:=t) hG he ha h1
   obtain ⟨xs,h2,h3⟩:=jd8 hr hu hl
   obtain ⟨h4,h5⟩:=jbW hT hp w
   refine ⟨.agg xs,?_,xs,rfl,h3⟩
   simp only [execOp,ho,zF,Instr.loadAt,e1,Instr.sureAddr,zH,zG,loadVar,h4,if_true,h5,h2]
  ·cases hv
 ·cases hv
theorem jcf (hT:TOk P C) {ty:TypeId} (h:jcG C ty=true) : ∃ el,P.underlying ty=some (.slice el)/\P.underlying el=some (.int .u8):=by
 obtain ⟨u,dd,h1,h2,h3⟩:=jao hT h
 cases u<;>simp at h1
 cases dd<;>simp [jac] at h3
 subst h3
 obtain ⟨u',dd',h4,h5,h6⟩:=jao hT h1
 refine ⟨_,h2,?_⟩
 cases u' with
 | int k=>
  cases k<;>simp at h4
  cases dd'<;>simp [jac] at h6
  subst h6;exact h5
 | _=>simp at h4
theorem jfF {a:V} {x:Value} {b:UInt8} (h:VRel m a x) (hb:jex a=some b):x = .int .u8 (b.toNat:Int):=by
 cases a with
 | int k n=>
  cases k<;>simp only [jex,zw] at hb<;>try (cases hb;done)
  split at hb
  ·next hn=>
   cases hb
   have:=jb2.1 hn
   rw [show x=_ from h]
   congr 1
   simp [UInt8.toNat_ofNat']
   omega
  ·cases hb
 | _=>simp [jex] at hb
theorem jcH : ∀ {l:List V} {s:List UInt8},bytesOf l=some s->l.length=s.length /\ ∀ (k:Nat) (b:UInt8),s[k]?=some b -> ∃ a,l[k]?=some a/\jex a=some b
 | [],s,hb=>by simp [bytesOf] at hb;subst hb;exact ⟨rfl,by simp⟩
 | a :: l,s,hb=>by
  simp only [bytesOf] at hb
  split at hb
  ·next b s' hb1 hb2=>
   cases hb
   obtain ⟨h1,h2⟩:=jcH hb2
   refine ⟨by simp [h1],fun k c hk=>?_⟩
   cases k with
   | zero=>simp at hk;subst hk;exact ⟨a,rfl,hb1⟩
   | succ k=>simpa using h2 k c (by simpa using hk)
  ·cases hb
theorem jdU (hT:TOk P C) (hG:GOk C m) (hr:HRel P C m h w) (he:ERel m e t) {a:Opd} {a':Operand} {s d:TypeId} (ho:o.op = .convert s d a') (ha:opdM C a a'=true) (hs:jcG C s=true)
  (hd:isU C d (fun | .str=>true | _=>false)=true) (hv:I.read e h (.ofBytes a)=some v):jap P m t o v w:=by
 obtain ⟨el,hs1,hs2⟩:=jcf hT hs
 obtain ⟨u,dd,h2,h3,h4⟩:=jao hT hd
 cases u<;>simp at h2
 cases dd<;>simp [jac] at h4
 simp only [I.read] at hv
 split at hv
 ·next n c h1=>
  cases hv
  obtain ⟨_,_,e1⟩:=jaa (t:=t) hG he ha h1
  refine ⟨.string ⟨⟨[]⟩⟩,?_,rfl⟩
  simp only [execOp,ho,zF,e1]
  rw [run_convert_bytes_string w s d el none 0 0 hs1 hs2 h3]
  rfl
 ·next b off n c h1=>
  obtain ⟨l,o',c',hl,e1,h5,h6,_⟩:=jaa (t:=t) hG he ha h1
  simp only [zw,beq_iff_eq] at hv
  split at hv
  ·next hn=>
   cases hv
   subst hn
   refine ⟨.string ⟨⟨[]⟩⟩,?_,rfl⟩
   simp only [execOp,ho,zF,e1]
   have:=run_convert_bytes_back w s d el o' c' [] hs1 hs2 h3 Zb
   simp only [List.length_nil] at this
   rw [this]
   rfl
  ·next hn=>
   split at hv
   ·next vs hvs=>
    split at hv
    ·next bs hbs=>
     cases hv
     obtain ⟨g1,g2⟩:=jcH hbs
     have hlen:=jcC hvs
     obtain ⟨vs0,ro,k1,k2,k3⟩:=jcc hvs
     have ho':=h6 om
     subst ho'
     refine ⟨.string ⟨⟨bs⟩⟩,?_,rfl⟩
     simp only [execOp,ho,zF,e1]
     have hnb:n=bs.length:=by omega
     subst hnb
     rw [run_convert_bytes_back w s d el ⟨l.β,l.d+off,none⟩ c' bs hs1 hs2 h3 (fun j hj=>by
      obtain ⟨a0,q1,q2⟩:=g2 j bs[j] (za hj)
      have q3:vs0[off+j]?=some a0:=by
       rw [k3,List.getElem?_take,zq om,zk] at q1
       exact q1
      obtain ⟨x,q4,q5⟩:=hr.cell k1 hl q3
      rw [jaE,Nat.add_assoc,q4,jfF q5 q2])]
     rfl
    ·cases hv
   ·cases hv
 ·cases hv
theorem jfV (hG:GOk C m) (he:ERel m e t) {a:Opd} {c:Go.Call} (hx:ja3 C [a] c.args.toList=true) {u:V} (hu:a.ev e=some u) : ∃ x,(c.args.map (evT t))[0]?=some x/\VRel m u x:=by
 obtain ⟨a',hargs,ha⟩ : ∃ a',c.args.toList=[a']/\opdM C a a'=true:=by
  match hq:c.args.toList,hx with
  | [a'],hx=>exact ⟨a',rfl,by simpa [ja3] using hx⟩
  | [],hx=>simp [ja3] at hx
  | _ :: _ :: _,hx=>simp [ja3] at hx
 refine ⟨evT t a',?_,jaa hG he ha hu⟩
 have:(c.args.map (evT t)).toList=[evT t a']:=by simp [hargs]
 rw [<- Array.getElem?_toList,this];rfl
theorem jfg (hT:TOk P C) {ts:Array TypeId} {f:UD->Bool} (hA:argT C ts 0 f=true) : ∃ ty u d,ts[0]?=some ty/\f u=true/\P.underlying ty=some d/\jac u d=true:=by
 unfold argT at hA
 split at hA
 ·next ty hty=>
  obtain ⟨u,dd,h1,h2,h3⟩:=jao hT hA
  exact ⟨ty,u,dd,hty,h1,h2,h3⟩
 ·cases hA
theorem jfR {c:Go.Call} (ho:o.op = .call c) (hc:c.callee = .builtin .len) {x:Value} {w w':World} (h:(Builtin.len_ c.argTypes o.type (c.args.map (evT t))).run P w = .ok x w') :
  (execOp (evT t) o).run P w = .ok (.value x) w':=by
 simp only [execOp,ho,zF,resolve,hc,zG,zH,invoke,builtin,h]
theorem pure_lenS (hT:TOk P C) (hG:GOk C m) (he:ERel m e t) {a:Opd} {c:Go.Call} (ho:o.op = .call c) (hc:c.callee = .builtin .len) (hx:ja3 C [a] c.args.toList=true)
  (hA:argT C c.argTypes 0 (fun | .str=>true | _=>false)=true) (hv:I.pure e (.lenS a)=some v) (w:World):jap P m t o v w:=by
 obtain ⟨ty,u,dd,h1,h2,h3,h4⟩:=jfg hT hA
 simp only [I.pure] at hv
 split at hv
 ·next s hs=>
  cases hv
  obtain ⟨x,h5,h6⟩:=jfV (t:=t) hG he hx hs
  rw [show x = .string ⟨⟨s⟩⟩ from h6] at h5
  cases u<;>simp at h2
  cases dd<;>simp [jac] at h4
  refine ⟨.int .i64 s.length,jfR ho hc ?_,rfl⟩
  simp only [Builtin.len_,h1,h5,zF,zI h3,zG,zH,goInt]
  simp [ByteArray.size]
 ·cases hv
theorem pure_lenL (hT:TOk P C) (hG:GOk C m) (he:ERel m e t) {a:Opd} {c:Go.Call} (ho:o.op = .call c) (hc:c.callee = .builtin .len) (hx:ja3 C [a] c.args.toList=true)
  (hA:argT C c.argTypes 0 (fun | .slice _=>true | _=>false)=true) (hv:I.pure e (.lenL a)=some v) (w:World):jap P m t o v w:=by
 obtain ⟨ty,u,dd,h1,h2,h3,h4⟩:=jfg hT hA
 simp only [I.pure] at hv
 split at hv
 ·next p n cp hs=>
  cases hv
  obtain ⟨x,h5,h6⟩:=jfV (t:=t) hG he hx hs
  have e1 : ∃ q c',x = .slice q n c':=by
   cases p with
   | none=>obtain ⟨rfl,_,e1⟩:=h6;exact ⟨_,_,e1⟩
   | some q=>obtain ⟨_,_,_,_,e1,_⟩:=h6;exact ⟨_,_,e1⟩
  obtain ⟨q,c',rfl⟩:=e1
  cases u<;>simp at h2
  cases dd<;>simp [jac] at h4
  refine ⟨.int .i64 n,jfR ho hc ?_,rfl⟩
  simp only [Builtin.len_,h1,h5,zF,zI h3,zG,zH,goInt]
 ·cases hv
theorem jab.length : ∀ {l:List (V × V × Nat)} {es:List MapEntry},jab m l es->l.length=es.length
 | [],_,h=>by rw [show _=[] from h];rfl
 | (_,_,_) :: _,_,⟨x,s,e,_,_,_,h5⟩=>by subst e;simp [h5.length]
theorem jfX (hr:HRel P C m h w) {r:Nat} {es:List (V × V × Nat)} {c:Nat} (hm:h.map? r=some (es,c)) {l:Loc} (hl:m r=some l) :
  h.get r=some (.map es c) /\ ∃ ces,w.heap[l.β]?=some (.map ces c)/\jab m es ces.toList:=by
 unfold H.map? at hm
 split at hm
 ·next es' c' hg=>
  cases hm
  obtain ⟨l',co,h1,h2,ces,rfl,h3⟩:=hr.obj r _ hg
  rw [hl] at h1;cases h1
  exact ⟨hg,ces,h2,h3⟩
 ·cases hm
theorem jba {r c:Nat} {ces:Array MapEntry} (hb:w.heap[r]?=some (.map ces c)):(getObj r).run P w = .ok (.map ces c) w:=by
 simp [getObj,Sem.run,hb]
end
end Am
namespace Am
open Go
section
variable {P:Program} {C:Cx} {m:Mp} {h:H} {w:World} {e:Env} {t:Array Value} {o:Oper} {v:V}
end
end Am
