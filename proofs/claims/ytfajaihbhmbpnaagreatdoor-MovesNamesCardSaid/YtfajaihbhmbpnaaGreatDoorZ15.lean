/- Our own library, part 15. -/
import Derived.Lib.Bytealg
import Derived.Shelf.Strconv.ToErrorRange
import Derived.Shelf.Strconv.ToError
import Derived.Shelf.Strconv.AtoiAll
import Derived.Lib.AtoiErrMem
import Derived.Test.YtfajaihbhmbpnaaGreatDoorZ13
import Derived.Test.YtfajaihbhmbpnaaGreatDoorZ14
set_option maxHeartbeats 8000000
set_option maxRecDepth 800
set_option linter.all false
namespace Am
open Go Go.Proofs Go.Shelf Go.RowKit
def cntB (c:UInt8):List UInt8->Nat
 | []=>0
 | x :: r=>(bif x == c then 1 else 0)+cntB c r
theorem jgi (c:UInt8) : ∀ s:List UInt8,Lib.countByte s c=cntB c s
 | []=>rfl
 | x :: r=>by
  have ih:=jgi c r
  unfold cntB
  rw [<- ih]
  simp only [Lib.countByte,List.count_cons]
  cases h:x == c<;>simp<;>omega
def jdb:Prim
 | [.str s,.int .u8 c],h=>some (.i (cntB c.toNat.toUInt8 s:Int),h)
 | _,_=>none
theorem pCount_F:jcS jdb:=by
 intro args h v h' hr
 unfold jdb at hr
 split at hr
 ·cases hr;exact ⟨zn _,fun X h2 x=>⟨h2,rfl,x⟩⟩
 ·cases hr
theorem pCount_ok {P:Program} {C:Cx} {f:FuncId} (x:Ext1 P f Extern.BytealgCount.count):ja5 P C f jdb:=by
 intro args h v h' hr m w xs hR hG hx
 unfold jdb at hr
 split at hr
 ·rename_i h0 s c
  cases hr
  obtain ⟨x1,r1,e1,h1,x2,r2,e2,h2,e3⟩:=hx
  obtain rfl:r2=[]:=e3
  subst e2
  obtain rfl:x1 = .string ⟨⟨s⟩⟩:=h1
  obtain rfl:x2 = .int .u8 c:=h2
  obtain ⟨l⟩:=xs
  obtain rfl:l=_:=e1
  refine fun _ _=>⟨m,w,_,Step.refl _ hR,rfl,.inl ?_⟩
  rw [x.run,Lib.run_countString]
  simp only [jgi,zG]
 ·cases hr
theorem jea {P:Program} {C:Cx} {f:FuncId} {p:Prim} (he : ∀ args w,(callFunc f args).run P w = .ok (.enter f args) w)
  (hp : ∀ args h v h',p args h=some (v,h') -> ∀ m w (xs:Array Value),HRel P C m h w->GOk C m->jae m args xs.toList->h'=h/\Calls P f xs w fun e w'=>∃ x,VRel m v x/\e = .returned x/\Below w.heap.size w w') :
  ja5 P C f p:=by
 intro args h v h' hr m w xs hR hG hx c cs
 obtain ⟨rfl,hc⟩:=hp args h v h' hr m w xs hR hG hx
 obtain ⟨e,w',fr,⟨x,hv,rfl,hb⟩,hs,_,hl⟩:=hc (c :: cs)
 exact ⟨m,w',x,jcg hR hb,hv,.inr ⟨he xs w,Steps.trans hs (.one (step_leave_returned hl))⟩⟩
def jb1 (g:Nat) (h:H):Bool:=match h.get g with
 | some (.cells (v :: _) _)=>match v with
  | .ifc | .nili=>true
  | _=>false
 | _=>false
theorem jcx {P:Program} {C:Cx} {m:Mp} {w:World} {g:Nat} {h:H} (hR:HRel P C m h w) (hG:GOk C m) (hgl:C.gl.any (Nat.beq g)=true) (hr:jb1 g h=true) : ∃ ev,w.cell? ⟨g,0,none⟩=some ev/\(ev = .nilIface \/ ∃ te pe,ev = .iface te pe):=by
 unfold jb1 at hr
 split at hr
 ·next v l ro hg=>
  obtain ⟨lc,h1,h2,h3⟩:=hG g hgl
  obtain ⟨l2,co,q1,q2,ce,elem,lo,hi',q3,q4,q5,q6,q7⟩:=hR.obj _ _ hg
  rw [h1] at q1;cases q1
  subst q3
  rw [h2] at q2
  obtain ⟨x,q8,q9⟩:=q6 0 v rfl
  refine ⟨x,by rw [jaw q2,<- q8,h3],?_⟩
  split at hr
  ·exact .inr q9
  ·exact .inl q9
  ·cases hr
 ·cases hr
theorem jdH {g:Nat} {h h2:H} {X:Nat->Option Obj} (x:Ext X h h2) (hr:jb1 g h=true):jb1 g h2=true:=by
 unfold jb1 at hr ⊢
 split at hr
 ·next v l ro hg=>rw [jdF x hg];exact hr
 ·cases hr
def jch (gS gR tE:Nat):Prim
 | [.str fn,.str s,.int .i64 base,.int .i64 bits,.iface t (.int .i64 (.ofNat n))],h=>
  bif Nat.beq t tE&&Nat.ble s.length 140737488355328 then
   bif Nat.beq n 2 then (bif jb1 gS h then some (.ifc,h) else none)
   else bif Nat.beq n 1 then (bif jb1 gR h then some (.ifc,h) else none) else none
  else none
 | _,_=>none
theorem pToErr_F (gS gR tE:Nat):jcS (jch gS gR tE):=by
 intro args h v h' hr
 unfold jch at hr
 split at hr
 ·next fn s base bits t n=>
  cases hc:(Nat.beq t tE&&Nat.ble s.length 140737488355328) with
  | false=>rw [hc] at hr;cases hr
  | true=>
   rw [hc,cond_true] at hr
   cases h2:Nat.beq n 2 with
   | true=>
    rw [h2,cond_true] at hr
    cases h3:jb1 gS h with
    | false=>rw [h3] at hr;cases hr
    | true=>
     rw [h3] at hr;cases hr
     exact ⟨zn _,fun X h2' x=>⟨h2',by simp only [jch,hc,h2,cond_true,jdH x h3],x⟩⟩
   | false=>
    rw [h2,cond_false] at hr
    cases h4:Nat.beq n 1 with
    | false=>rw [h4] at hr;cases hr
    | true=>
     rw [h4,cond_true] at hr
     cases h3:jb1 gR h with
     | false=>rw [h3] at hr;cases hr
     | true=>
      rw [h3] at hr;cases hr
      exact ⟨zn _,fun X h2' x=>⟨h2',by simp only [jch,hc,h2,h4,cond_true,cond_false,jdH x h3],x⟩⟩
 ·cases hr
theorem pToErr_ok {P:Program} {C:Cx} {ρ : Ren} (L:LaysC.n245 P ρ) (hS:C.gl.any (Nat.beq (ρ.g 15))=true) (hR':C.gl.any (Nat.beq (ρ.g 16))=true):ja5 P C (ρ.f 245) (jch (ρ.g 15) (ρ.g 16) (ρ.t 167)):=by
 refine jea (enters_of L.f245 (by kernel_rfl) rfl) ?_
 intro args h v h' hr m w xs hR hG hx
 unfold jch at hr
 split at hr
 ·next fn s base bits t n=>
  cases hc:(Nat.beq t (ρ.t 167)&&Nat.ble s.length 140737488355328) with
  | false=>rw [hc] at hr;cases hr
  | true=>
   rw [hc,cond_true] at hr
   simp only [zm,zz] at hc
   obtain ⟨hc1,hc2⟩:=hc
   obtain rfl:=Nat.eq_of_beq_eq_true hc1
   obtain ⟨x1,r1,e1,h1,x2,r2,e2,h2,x3,r3,e3,h3,x4,r4,e4,h4,x5,r5,e5,h5,e6⟩:=hx
   obtain rfl:r5=[]:=e6
   subst e5 e4 e3 e2
   obtain rfl:x1=_:=h1
   obtain rfl:x2=_:=h2
   obtain rfl:x3=_:=h3
   obtain rfl:x4=_:=h4
   obtain ⟨y,rfl,h5⟩:=h5
   obtain rfl:y=_:=h5
   obtain ⟨l⟩:=xs
   obtain rfl:l=_:=e1
   have hlim:(ByteArray.mk ⟨s⟩).size<=281474976710656:=by show s.length<=_;omega
   cases h6:Nat.beq n 2 with
   | true=>
    obtain rfl:=Nat.eq_of_beq_eq_true h6
    rw [h6,cond_true] at hr
    cases h7:jb1 (ρ.g 15) h with
    | false=>rw [h7] at hr;cases hr
    | true=>
     rw [h7] at hr;cases hr
     obtain ⟨ev,k1,k2⟩:=jcx hR hG hS h7
     refine ⟨rfl,(Any.strconv_toError_syntax L ⟨⟨fn⟩⟩ ⟨⟨s⟩⟩ base bits ev w hlim k1 k2).mono ?_⟩
     rintro e w' ⟨N,rfl,_,_,hb⟩
     exact ⟨_,⟨_,_,rfl⟩,rfl,hb⟩
   | false=>
    rw [h6,cond_false] at hr
    cases h6':Nat.beq n 1 with
    | false=>rw [h6'] at hr;cases hr
    | true=>
    obtain rfl:=Nat.eq_of_beq_eq_true h6'
    rw [h6',cond_true] at hr
    cases h7:jb1 (ρ.g 16) h with
    | false=>rw [h7] at hr;cases hr
    | true=>
     rw [h7] at hr;cases hr
     obtain ⟨ev,k1,k2⟩:=jcx hR hG hR' h7
     refine ⟨rfl,(Any.strconv_toError_range L ⟨⟨fn⟩⟩ ⟨⟨s⟩⟩ base bits ev w hlim k1 k2).mono ?_⟩
     rintro e w' ⟨N,rfl,_,_,hb⟩
     exact ⟨_,⟨_,_,rfl⟩,rfl,hb⟩
 ·cases hr
def jdo (gS gR:Nat):Prim
 | [.str s],h=>
  bif Nat.ble s.length 140737488355328 then
   match Lib.atoiAll s with
   | .ok v=>some (.tup [.i v,.nili],h)
   | .syntax=>bif jb1 gS h then some (.tup [.i 0,.ifc],h) else none
   | .range=>bif jb1 gR h then some (.tup [.i (Lib.atoiSat s),.ifc],h) else none
  else none
 | _,_=>none
theorem pAtoi_F (gS gR:Nat):jcS (jdo gS gR):=by
 intro args h v h' hr
 unfold jdo at hr
 split at hr
 ·next s=>
  cases hc:Nat.ble s.length 140737488355328 with
  | false=>rw [hc] at hr;cases hr
  | true=>
   rw [hc,cond_true] at hr
   split at hr
   ·next u hu=>
    cases hr
    exact ⟨zn _,fun X h2 x=>⟨h2,by simp only [jdo,hc,cond_true,hu],x⟩⟩
   ·next hu=>
    cases h3:jb1 gS h with
    | false=>rw [h3] at hr;cases hr
    | true=>
     rw [h3] at hr;cases hr
     exact ⟨zn _,fun X h2 x=>⟨h2,by simp only [jdo,hc,cond_true,hu,jdH x h3],x⟩⟩
   ·next hu=>
    cases h3:jb1 gR h with
    | false=>rw [h3] at hr;cases hr
    | true=>
     rw [h3] at hr;cases hr
     exact ⟨zn _,fun X h2 x=>⟨h2,by simp only [jdo,hc,cond_true,hu,jdH x h3],x⟩⟩
 ·cases hr
theorem pAtoi_ok {P:Program} {C:Cx} {ρ : Ren} (L:LaysC.n172 P ρ) (hS:C.gl.any (Nat.beq (ρ.g 15))=true) (hR':C.gl.any (Nat.beq (ρ.g 16))=true):ja5 P C (ρ.f 172) (jdo (ρ.g 15) (ρ.g 16)):=by
 refine jea (enters_of L.f172 (by kernel_rfl) rfl) ?_
 intro args h v h' hr m w xs hR hG hx
 unfold jdo at hr
 split at hr
 ·next s=>
  cases hc:Nat.ble s.length 140737488355328 with
  | false=>rw [hc] at hr;cases hr
  | true=>
   rw [hc,cond_true] at hr
   simp only [zz] at hc
   obtain ⟨x1,r1,e1,h1,e2⟩:=hx
   obtain rfl:r1=[]:=e2
   obtain rfl:x1 = .string ⟨⟨s⟩⟩:=h1
   obtain ⟨l⟩:=xs
   obtain rfl:l=_:=e1
   have hlim:(ByteArray.mk ⟨s⟩).size<=281474976710656:=by show s.length<=_;omega
   have hmax:(ByteArray.mk ⟨s⟩).size<=9223372036854775806:=by show s.length<=_;omega
   split at hr
   ·next u hu=>
    cases hr
    refine ⟨rfl,(Any.strconv_Atoi_ok L ⟨⟨s⟩⟩ hmax u hu w).mono ?_⟩
    rintro e w' ⟨rfl,hw⟩
    refine ⟨_,⟨#[.int .i64 u,.nilIface],rfl,_,_,rfl,rfl,_,_,rfl,rfl,rfl⟩,rfl,?_⟩
    rcases hw with rfl | ⟨t,rfl⟩
    ·exact Below.refl _ _
    ·exact Lib.bytesWorld_below _ _ _
   ·next hu=>
    cases h7:jb1 (ρ.g 15) h with
    | false=>rw [h7] at hr;cases hr
    | true=>
     rw [h7] at hr;cases hr
     obtain ⟨ev,k1,k2⟩:=jcx hR hG hS h7
     refine ⟨rfl,(Any.strconv_Atoi_syntax L ⟨⟨s⟩⟩ hlim hu ev w k1 k2).mono ?_⟩
     rintro e w' ⟨N,rfl,_,_,hb⟩
     exact ⟨_,⟨_,rfl,_,_,rfl,rfl,_,_,rfl,⟨_,_,rfl⟩,rfl⟩,rfl,hb⟩
   ·next hu=>
    cases h7:jb1 (ρ.g 16) h with
    | false=>rw [h7] at hr;cases hr
    | true=>
     rw [h7] at hr;cases hr
     obtain ⟨ev,k1,k2⟩:=jcx hR hG hR' h7
     refine ⟨rfl,(Any.strconv_Atoi_range L ⟨⟨s⟩⟩ hlim hu ev w k1 k2).mono ?_⟩
     rintro e w' ⟨N,rfl,_,_,hb⟩
     exact ⟨_,⟨_,rfl,_,_,rfl,rfl,_,_,rfl,⟨_,_,rfl⟩,rfl⟩,rfl,hb⟩
 ·cases hr
end Am
set_option maxRecDepth 100000
namespace Am.Sigs
open Am Go
abbrev uF {α:Sort _} (f g:α) (_:f=g:=by (repeat (apply funext;intro));conv=>{lhs;cbv}):α:=g
section
variable (S a b c:Nat) (vs:List V) (is:List I) (ps:List AC)
def rV (N:Nat):V × Nat:=match N%33 with
 | 32=>(vs.getD (N/33%a) .nilfn,N/33/a)
 | n=>(([.i 0,.i 1,.bool false,.bool true,.nils,.i 2,.i 3,.ptr none,.i 110,.i 111,.i 64,.i 31,.i 32,.i 113,.i 115,.i 116,.i 4,.i 95,.i 112,.int .u64 1,.i 96,.i 5,.i 8,.i 16,.int .u64 0,.int .u32 0,.int .u8 0,.str [],.i 10,.i 100,.int .u32 1,.i 65536]:List V).getD n .nilfn,N/33)
def rO (l N:Nat):Opd × Nat:=match N%3 with
 | 0=>(.t l,N/3)
 | 1=>(.t (N/3%S),N/3/S)
 | _=>match rV a vs (N/3) with | (x,N)=>(.c x,N)
def r1 (l N:Nat) (k:Opd->I):I × Nat:=match rO S a vs l N with | (x,N)=>(k x,N)
def r2 (l N:Nat) (k:Opd->Opd->I):I × Nat:=match rO S a vs l N with | (x,N)=>match rO S a vs l N with | (y,N)=>(k x y,N)
def rL {β:Type} (r:Nat->β × Nat):Nat->Nat->List β × Nat
 | 0,N=>([],N)
 | n+1,N=>match r N with | (x,N)=>match rL r n N with | (l,N)=>(x::l,N)
def rB (l N:Nat):(Nat × Opd) × Nat:=match rO S a vs l (N/32) with | (x,M)=>((N%32,x),M)
def rI (l N:Nat):I × Nat:=match N%20 with
 | 0=>r1 S a vs l (N/20) .mv
 | 1=>r1 S a vs l (N/20/1024) (.faddr (N/20%1024))
 | 2=>r1 S a vs l (N/20) .load1
 | 3=>r1 S a vs l (N/20) .nilck
 | 4=>r1 S a vs l (N/20/16) fun x=>.extract x (N/20%16)
 | 5=>r2 S a vs l (N/20/1024) (.store (N/20%1024))
 | 6=>r2 S a vs l (N/20/32) (.bin (([.add,.sub,.mul,.quo,.rem,.and,.or,.xor,.shl,.shr,.andNot,.eql,.neq,.lss,.leq,.gtr,.geq]:List BinOp).getD (N/20%32) .add))
 | 7=>match rO S a vs l (N/20) with | (x,N)=>r2 S a vs l N (.pick x)
 | 8=>match rL (rO S a vs l) (N/20/1024%16) (N/20/1024/16) with | (x,M)=>(.call (N/20%1024) x,M)
 | 9=>r2 S a vs l (N/20/1024/1024) (.ixaA (N/20%1024) (N/20/1024%1024))
 | 10=>r2 S a vs l (N/20/1024) (.ixaS (N/20%1024))
 | 11=>r1 S a vs l (N/20/1024) (.loadN (N/20%1024))
 | 12=>r1 S a vs l (N/20) .lenL
 | 13=>r1 S a vs l (N/20/4) (.un (([.not,.neg,.xor]:List UnOp).getD (N/20%4) .not))
 | 14=>r2 S a vs l (N/20/1024/1024) (.append (N/20%1024) (N/20/1024%1024))
 | 15=>r1 S a vs l (N/20/32) (.box (N/20%32))
 | 16=>match rL (rV a vs) (N/20/32%32) (N/20/32/32) with | (x,M)=>(.alloc (N/20%32) x,M)
 | 17=>match rL (rV a vs) (N/20/32/32%64) (N/20/32/32/64) with | (x,M)=>match rL (rB S a vs l) (M%32) (M/32) with | (y,M)=>(.bslice (N/20%32) (N/20/32%32) x y,M)
 | _=>(is.getD (N/20%b) .fail,N/20/b)
def r3 (g:Option (Nat × Bool)) (h N:Nat):Option (Nat × Bool) × Nat:=match h with
 | 0=>(none,N)
 | 1=>(g,N)
 | _=>(some (N%S,Nat.beq (N/S%2) 1),N/S/2)
def rC (g:Option (Nat × Bool)) (l N:Nat):(Nat × I × Option (Nat × Bool)) × Nat:=match rI S a b vs is l (N/S) with | (i,M)=>match r3 S g (M%3) (M/3) with | (g,M)=>((N%S,i,g),M)
def rP (j h N:Nat):Nat × Nat:=match h%2 with | 0=>(j,N) | _=>(N%1024,N/1024)
def rQ (l h N:Nat):Option Nat × Nat:=match h with | 0=>(some (l+1),N) | 1=>(some (N%S),N/S) | _=>(none,N)
def r4 (q:Option (Nat × Bool)) (l h N:Nat):Option Nat × List (Nat × I × Option (Nat × Bool)) × Nat:=match h with
 | 0=>(none,[],N)
 | _=>match rL (rC S a b vs is q l) (N/8%32) (N/8/32) with | (c,M)=>(match N%8 with | 0=>none | a+1=>some a,c,M)
def rM (j l h N:Nat) (q:Option (Nat × Bool)):(Ins × Nat) × Nat:=match rP j h N with
 | (j,N)=>match rQ S l (h/2%3) N with
 | (d,N)=>match r3 S q (h/6%3) N with
 | (g,N)=>match r4 S a b vs is (g.or q) l (h/18) N with
 | (x,y,N)=>match rI S a b vs is l N with | (i,N)=>((⟨j,d,i,g,x,y⟩,d.getD l),N)
def sJ (r:Nat->Nat->Option (Nat × Bool)->Nat->(List Ins × Nat) × Nat) (j l:Nat) (q:Option (Nat × Bool)) (N:Nat):(List Ins × Nat) × Nat:=match rM S a b vs is j l (N%36) (N/36) q with
 | ((x,l),N)=>match r (x.ix+1) l (x.guard.or q) N with | ((r,l),N)=>((x::r,l),N)
def rJ:Nat->Nat->Nat->Option (Nat × Bool)->Nat->(List Ins × Nat) × Nat
 | 0,_,l,_,N=>(([],l),N)
 | n+1,j,l,q,N=>sJ S a b vs is (rJ n) j l q N
def sD (r:Nat->Nat->List Nat × Nat) (p N:Nat):List Nat × Nat:=match N%2 with
 | 0=>match r (p+N/2%8) (N/2/8) with | (r,M)=>((p+N/2%8)::r,M)
 | _=>match r (p+N/2%S) (N/2/S) with | (r,M)=>((p+N/2%S)::r,M)
def rD:Nat->Nat->Nat->List Nat × Nat
 | 0,_,N=>([],N)
 | n+1,p,N=>sD S (rD n) p N
def rK (p:List Nat) (N:Nat):List Nat × Nat:=match N%4 with
 | 0=>(p,N/4)
 | 1=>rD S (N/4%64) 0 (N/4/64)
 | 2=>rL (fun N=>(N%S,N/S)) (N/4%64) (N/4/64)
 | _=>(p++[N/4%S],N/4/S)
def sA (r:Nat->List Nat->Nat->AC × Nat × List Nat × Nat) (N:Nat) (p:List Nat) (l:Nat):AC × Nat × List Nat × Nat:=match N%12 with
 | 0=>match r (N/12) p l with | (x,N,p,l)=>match r N p l with | (y,N,p,l)=>(.seq x y,N,p,l)
 | 1=>match rJ S a b vs is (N/12%128) 0 l none (N/12/128) with | ((q,l),N)=>match rK S p N with | (p,N)=>(.region 0 q p,N,p,l)
 | 2=>match rJ S a b vs is (N/12/8%128) 0 l none (N/12/8/128) with | ((q,l),M)=>match rK S p M with | (p,M)=>(.region (N/12%8) q p,M,p,l)
 | 3=>match rO S a vs l (N/12) with | (x,N)=>match r N p l with | (y,N,p,l)=>match r N p l with | (z,N,p,l)=>(.cond x y z,N,p,l)
 | 4=>match r (N/12/128) p l with | (x,M,p,l)=>(.block (N/12%128) x,M,p,l)
 | 5=>match rK S p (N/12) with | (k,N)=>match r N k l with | (x,N,q,l)=>(.loop k x,N,q,l)
 | 6=>(.skip,N/12,p,l)
 | 7=>(.ret,N/12,p,l)
 | 8=>(.exit (N/12%128),N/12/128,p,l)
 | 9=>match rO S a vs l (N/12) with | (x,N)=>match rK S [] N with | (y,N)=>match rK S p N with | (k,N)=>match r N k l with | (z,N,p,l)=>match r N p l with | (w,N,p,l)=>(.rangeFunc x y k z w,N,p,l)
 | 10=>match r (N/12) p l with | (x,N,p,l)=>(.scope x,N,p,l)
 | _=>(ps.getD (N/12%c) .skip,N/12/c,p,l)
def rA:Nat->Nat->List Nat->Nat->AC × Nat × List Nat × Nat
 | 0,N,p,l=>(.skip,N,p,l)
 | f+1,N,p,l=>sA S a b c vs is ps (rA f) N p l
end
def jA (S N a b c:Nat) (vs:List V) (is:List I) (ps:List AC):AC:=(rA S a b c vs is ps 40 N [] 0).1
abbrev yA (S N:Nat)  {g:AC} (_:(jA S N 0 0 0 [] [] [])=g:=by (repeat (apply funext;intro));conv=>{lhs;cbv}):AC:=g 
abbrev yB (S N:Nat) (a:AC) {g:AC->AC} (_:(fun a=>jA S N 0 0 1 [] [] [a])=g:=by (repeat (apply funext;intro));conv=>{lhs;cbv}):AC:=g a
abbrev yC (S N:Nat) (a b:AC) {g:AC->AC->AC} (_:(fun a b=>jA S N 0 0 2 [] [] [a,b])=g:=by (repeat (apply funext;intro));conv=>{lhs;cbv}):AC:=g a b
abbrev yD (S N:Nat) (a b c:AC) {g:AC->AC->AC->AC} (_:(fun a b c=>jA S N 0 0 3 [] [] [a,b,c])=g:=by (repeat (apply funext;intro));conv=>{lhs;cbv}):AC:=g a b c
abbrev yE (S N:Nat) (a:I) {g:I->AC} (_:(fun a=>jA S N 0 1 0 [] [a] [])=g:=by (repeat (apply funext;intro));conv=>{lhs;cbv}):AC:=g a
abbrev yF (S N:Nat) (a:I)(b:AC) {g:I->AC->AC} (_:(fun a b=>jA S N 0 1 1 [] [a] [b])=g:=by (repeat (apply funext;intro));conv=>{lhs;cbv}):AC:=g a b
abbrev yG (S N:Nat) (a:V) {g:V->AC} (_:(fun a=>jA S N 1 0 0 [a] [] [])=g:=by (repeat (apply funext;intro));conv=>{lhs;cbv}):AC:=g a
abbrev yH (S N:Nat) (a:V)(b:AC) {g:V->AC->AC} (_:(fun a b=>jA S N 1 0 1 [a] [] [b])=g:=by (repeat (apply funext;intro));conv=>{lhs;cbv}):AC:=g a b
abbrev yI (S N:Nat) (a:V)(b:I) {g:V->I->AC} (_:(fun a b=>jA S N 1 1 0 [a] [b] [])=g:=by (repeat (apply funext;intro));conv=>{lhs;cbv}):AC:=g a b
abbrev yJ (S N:Nat) (a:V)(b:I)(c:AC) {g:V->I->AC->AC} (_:(fun a b c=>jA S N 1 1 1 [a] [b] [c])=g:=by (repeat (apply funext;intro));conv=>{lhs;cbv}):AC:=g a b c
abbrev yK (S N:Nat) (a b:V) {g:V->V->AC} (_:(fun a b=>jA S N 2 0 0 [a,b] [] [])=g:=by (repeat (apply funext;intro));conv=>{lhs;cbv}):AC:=g a b
abbrev yL (S N:Nat) (a b:V)(c:AC) {g:V->V->AC->AC} (_:(fun a b c=>jA S N 2 0 1 [a,b] [] [c])=g:=by (repeat (apply funext;intro));conv=>{lhs;cbv}):AC:=g a b c
abbrev yM (S N:Nat) (a b:I) {g:I->I->AC} (_:(fun a b=>jA S N 0 2 0 [] [a,b] [])=g:=by (repeat (apply funext;intro));conv=>{lhs;cbv}):AC:=g a b
abbrev yN (S N:Nat) (a:I)(b c:AC) {g:I->AC->AC->AC} (_:(fun a b c=>jA S N 0 1 2 [] [a] [b,c])=g:=by (repeat (apply funext;intro));conv=>{lhs;cbv}):AC:=g a b c
def c5_0 :=(uF (fun a b c d=>jA 245 0x3ef397d01ab44a1eb56cf19e1b0c5d0226c81554f6edd005a79e7bbc803e621a11db1b355ecce9f0498aef95ce82185a2000bb1b963db5c7db63e26bfb80a099f2effe9b2376fcc01cb147f6ed98cfa30cf3cbd228eadaccdd610b610eb8ebf7eabdeceb127b6aed8c8eebb4ffd0c7498318ec3a9fc117a30d18233bc13f876d13c80a16f0d81363cb341ad8aec93b12ba2b686abea020a9efa3a4dde01bdd8e698c18639acdbc4d3990c51209d43c26f4348cb1b3772e1386c4032aaaafb4120fddcb5de096bc9209cdc68d8ccde8273c58a782186df6ab449b1c370ad7d452053efc84d2b87aa442888d529202d7a596caeabdfbd0a61b1b6f5cbe873ee4b4d9f5bcfced8a6f2948f6266b0aec089bafc9fa3ea8e5cf027ed732f343c884c 4 0 0 [a,b,c,d] [] []) _) (.int .u64 11) (.i 120) (.i 7) (.nilfn)
def c5_4 :=(uF (fun a b c d e f g h=>jA 146 0x710f709d84d7b84e288e4896ecf14a0e5d52e6fd695b98f9d394a460467a1be2e40ad7b369cfe6c1d9432b837f73589399342f2fc523c94958b4d043a9ce3aa99e1ead18d33bf7379fe568b71eac2673ca40b8b4203a8e85f899b36e7714fed86928d623f3452be065afefff6072d76c6326a41171f11f4fe0bea7a68cfa3e39751c 4 3 1 [a,b,c,d] [e,f,g] [h]) _) (.i (-1)) (.i 7) (.int .u64 9) (.nilfn) (.build [.int .u64 0,.bool false,.nils,.nils] [(2,1,(.t 125))]) (.build [.i 0,.i 0,.i 0,.nils] [(0,1,(.c (.i 7)))]) (.build [.int .u64 0,.bool false,.nils,.nils] [(0,1,(.c (.int .u64 2))),(1,1,(.c (.bool true))),(2,1,(.t 137))]) c5_0
def c5_12 :=(uF (fun a b c d e=>jA 124 0x174ab505ff3b28bbb241335b0888b4c92c796c232e3ea1f9c5cecee012c93ce56cae298d941a251d3cdc54e9fee44976538305470b0556b32c7090c3439c9eb3f8d36b468e5d1d6dd75024e3e32306b91b497f84af3bd57e8af8991866c3db7a59a75578163ca36a99b45928fa3e63057968a2c249c7b899e96cb1703a37548c 3 1 1 [a,b,c] [d] [e]) _) (.int .u64 9) (.nilfn) (.clo 20 []) (.mkSlice 4 64 [.int .u64 0,.bool false,.nils,.nils] (.c (.i 2001)) (.c (.i 2001))) c5_4
def c5_13 :=(uF (fun a b c d=>jA 101 0x115f2030e5c9a14402d9a41e3ed6122988f5c6fa6836a852a738698330717a759c16dac78db04f269deb907ddb57c6095eed1f899b5e20f8414120b87730ec3d0a9034e9e2c37f921d1e251a2a1919d000568af072bc9ae3f44f5dfc34415693345440744c9ad667efd2976416963b977f2cfd9b216f8517d0947cbdead919354d0 1 2 1 [a] [b,c] [d]) _) (.i 120) (.slice 4 (.t 91) (some (.t 92)) (some (.t 94)) none) (.build [.int .u64 0,.bool false,.nils,.nils] [(3,1,(.t 95))]) c5_12
def c5_14 :=(uF (fun a b c d e f g h i j k=>jA 71 0x1b7df826ec43099598b270c7942c6309045e7a12c0a6e21fa14e8aa8c343e9e168023eb63c 0 10 1 [] [a,b,c,d,e,f,g,h,i,j] [k]) _) (.build [.i 0,.i 0,.i 0,.nils] []) (.build [.i 0,.i 0,.i 0,.nils] [(0,1,(.c (.i 8)))]) (.build [.i 0,.i 0,.i 0,.nils] [(0,1,(.c (.i 1)))]) (.build [.i 0,.i 0,.i 0,.nils] [(0,1,(.c (.i 3))),(2,1,(.c (.i 1)))]) (.build [.i 0,.i 0,.i 0,.nils] [(0,1,(.c (.i 7))),(1,1,(.c (.i 1)))]) (.build [.i 0,.i 0,.i 0,.nils] [(0,1,(.c (.i 2))),(2,1,(.c (.i (-1))))]) (.mkSlice 1 1 [.int .u8 0] (.c (.i 1001)) (.c (.i 1001))) (.build [.i 0,.i 0,.i 0,.nils] [(0,1,(.c (.i 1))),(3,1,(.t 66))]) (.build [.i 0,.i 0,.i 0,.nils] [(0,1,(.c (.i 4))),(1,1,(.c (.i (-1))))]) (.bslice 4 8 ((List.replicate 8 ([.i 0,.i 0,.i 0,.nils]:List V)).flatten) [(0,(.t 60)),(1,(.t 61)),(2,(.t 62)),(3,(.t 63)),(4,(.t 64)),(5,(.t 65)),(6,(.t 67)),(7,(.t 68))]) c5_13
def c5_15 :=(uF (fun a b c d e f g h i j k l m=>jA 60 0xaf96bbd2f1a6a3c46e71516d3aa2ee0f42a81359ed8a37199999430a19b5c9304a10b53d1187966ea196c67a2ba154649918795bea3c5e405a0aaa9114f8912da2a5cc292aaa98820ff8a14732c60ca9a657e0f4519cd8ee97d5b31452ea4cf204bd7c7891d6731a9117433b30a8aaae3ddfd6906b2b3c4772c78bede3bc 12 0 1 [a,b,c,d,e,f,g,h,i,j,k,l] [] [m]) _) (.str [115,116,101,112,32,48,53,10]) (.str [115,116,101,112,32,49]) (.str [115,116,101,112,32,49,32,112,117,116,32,48,32,54,10]) (.str [115,116,101,112,32,49,10,120,10]) (.str [115,116,101,112,32,49,32,112,117,116,32,48,10]) (.str [115,116,101,112,32,49,32,111,114,100,101,114,10]) (.str [115,116,101,112,32,49,32,111,114,100,101,114,32,49,48,48,48,10]) (.str [115,116,101,112,32,49,32,32,105,110,116,114,10]) (.str [115,116,101,112,32,49,32,115,104,117,116,32,48,32,53,10]) (.str [115,116,101,112,32,49,56,52,52,54,55,52,52,48,55,51,55,48,57,53,53,49,54,49,54,10]) (.str [115,116,101,112,32,49,32,112,117,116,32,48,32,65,66,10]) (.str [10]) c5_14
def c5:AFn:=⟨0,245,[.tmp 0],yB 2 115829674140 c5_15⟩
def c7_0 :=(uF (fun a b c=>jA 25 0x39ec5a9912293f2069c9969a6b18964cfc43d9d59a53e609f50f0c365b84e2be40c03a6a4e7b09db9b807f311b35a5bbf6e7c0a092922a2ceef82f0bc466307874f5b4ce50 3 0 0 [a,b,c] [] []) _) (.i 50) (.clo 27 []) (.i 120)
def c7:AFn:=⟨1,25,[.tmp 2],yH 4 0x12f2ae5f7ff2455d8c1e12c (.clo 24 []) c7_0⟩
def c11_4 :=(uF (fun a b c=>jA 36 0xef2b5fb9ce177a323cb0a4712ad8798b7c4635d55642687d14686b8fcdc6d66fb5d4b524ca825f44478df6d56c7dc83182f9a43192716bc98b0e273e8554d539f24c2a85cd699fd701168643e91d5fe03b50d1edcd8055bc0189f71f143bfcaf104b1fd7107ea6efe6e56f663e569e3255b6be9402ef0643c6364d3bdb3db20110e97c038006ef5b8d36d1dc8509dba59f5832b892ce7ce0429d44559d5862d2ce10 3 0 0 [a,b,c] [] []) _) (.str [10]) (.i 2000) (.i 121)
def c11:AFn:=⟨1,36,[.cell1 2,.cell1 3,.cell1 4],yB 5 0x2fc05427f59d09a1e1058eedc351bc c11_4⟩
def c14_0 :=(uF (fun a b c=>jA 65 0x100fa6bff92f1e64a0a2550a63c13cec9d54fc7932a4ad6365f45799b497fdfcc942eff0d7f4e36df68a79183eb98b6c71c77e4f3f49b43480f538a5cb09ac455a6f88c450c8ece4b6d455ec536ffb9f939de945e620c 3 0 0 [a,b,c] [] []) _) (.str [115,116,101,112,32,53,32,105,110,116,114,32,111,114,100,101,114,32,50,44,48,32,112,117,116,32,48,32,54,49,54,50,32,114,97,105,115,101,32,51,10]) (.int .u64 2) (.int .u64 5)
def c14_3 :=(uF (fun a b c d e f g h i j k l=>jA 34 0x48e8a69505294de319d7a9e23cf2e3425df07a87b07046c75ad8e7743992466901c2a5ecb464c3c280d4cde634f67aa1fd8cf09a2f890e4714f731bdc01e5ee51d0f0c0d4fb2045bb0eeefe36d35a1e48cfb622eb1bdb765ec00c9ecac2b09d743e952dccfe6bda3cb53f1cc1a53ba1bafcf654d48abdd1d57d72cf8149451b77d72a1c4c8e128135cf7ec 4 7 1 [a,b,c,d] [e,f,g,h,i,j,k] [l]) _) (.int .u8 97) (.int .u8 98) (.int .u64 5) (.nilfn) (.mark (.t 10)) (.build [.i 0,.i 0,.i 0,.nils] [(0,1,(.c (.i 1))),(3,1,(.t 11))]) (.build [.i 0,.i 0,.i 0,.nils] [(0,1,(.c (.i 7))),(2,1,(.c (.i 3)))]) (.build [.int .u64 0,.bool false,.nils,.nils] [(0,1,(.c (.int .u64 5))),(1,1,(.c (.bool true))),(2,1,(.t 9)),(3,1,(.t 14))]) (.build [.int .u64 0,.bool false,.nils,.nils] []) (.build [.int .u64 0,.bool false,.nils,.nils] [(0,1,(.c (.int .u64 3)))]) (.build [.int .u64 0,.bool false,.nils,.nils] [(0,1,(.c (.int .u64 4)))]) c14_0
def c14:AFn:=⟨0,65,[.tmp 0],yB 2 115829674140 c14_3⟩
def c15_1 :=yG 26 0x5b9eaa405f4d6d2acc3a1e3840888a1780df2810ac237173bdb12b5393b6ea75367d66db8f234450fde4996f3e7e059554cca452153907ffb8bb51c (.i 121)
def c15:AFn:=⟨2,26,[.tmp 4],yB 5 4789558881718428 c15_1⟩
def c16_0 :=yM 4 0x5edd46a40733a0bf824c (.build ((List.replicate 96 ([.bool false,.i 0,.i 0]:List V)).flatten++[.nils,.ptr none,.int .u64 0,.bool false,.i 0,.i 0]) [(289,1,(.t 1))]) (.box 294 (.t 2))
def c16:AFn:=⟨0,4,[.tmp 0],yB 2 116227805340 c16_0⟩
def c17_4 :=yA 39 0xac6efdc4efecd0ba3a1942003586ecc244ef22cd20b61ac3c461b490e3ae1e9cf3af6a510e4a422fd00ab89006163c
def c17_5 :=yA 25 0x6b0919664c5aa8a5fd94fc02e425f8d6dc5fa3684b637eb7a9f342b5ac
def c17_6 :=(uF (fun a b c=>jA 67 0xa9b27f3cfc28622d4f3e82ecf03b6de528f7a66839db2b6401d7cb77cf154d97fa81bd20c19e0d131bd62d9d7f8b627ed85b8cf394cf0ef3779e6962a15f7339d39e7d4c16e4e1ed486cd0b695e8dca7b7b12760e5de84b31b26210575e657b0f8b4fa96247ba0f1d9c413fd230cb94f855c913d306bb89ef60688fa75f3650600881d7fcb01087e091454c55334c2a16c647a2ffff1dde22dd9201e13b674f 1 0 2 [a] [] [b,c]) _) (.i 6) c17_5 c17_4
def c17_9 :=yH 71 0x4f7c136fc0dd25f0231fa99e045cbb81aaf230dd86f25aa75187cee893f34ceaea89d8341f711e0c625af5d50fec6e027f83a1d5a4700e750e138521349b2e47bfff3e1ac06ebdbbabf7a9154895d4207cd7b1fb30ce7918c318dd631075a411bc (.i 120) c17_6
def c17:AFn:=⟨2,71,[.tmp 4,.tmp 5],(c17_9)⟩
def c18_1 :=yI 11 0x7a383b2ebb66d7606401b6ef873c3cec87a7747132759be22eceddc15d8c037b6ecd4d0 (.i 120) (.build [.nils,.nils] [(0,1,(.t 8))])
def c18:AFn:=⟨1,11,[.tmp 2,.tmp 3],yB 4 0xee3f9ac8fad12c c18_1⟩
def c19_3 :=yA 98 0x4697c28b17169b286d80be2e174b5ccf835917b4add6e4fb446f7719b2c70218e006e0f488691a7d423821a6f0f1e9d2ecde5cdce663a05c6a93722e8ad2e94d18144e28e4a62d349274c757f68a84ebc26526065d94925998ed36123e7bad186d3737cc50f9d56f886e8ada93a1d2bd3646565c164be108c1270fc8f67bc6b31cafe33fc
def c19_7 :=yE 121 0x983e05bebcb35f1303feff4b929007ece32c4722c26bdbf4a343f44c3b22e7eb1aa8a8b0be77223278123056f0600aa1c3ccf774fd80fdffa3c40159be5e937c3efcc497b770c355ba132d51c (.minI [(.t 108),(.t 115)])
def c19_8 :=yA 36 0x18dc67d09d9b2c7939e27d59b7c40d0b36e0ffc2254d50e99d9eda70b1bc5206ce66a7af3c6346b3135e2b9a5025669879b1180d2545154f34685710249f0fbaf8ac90
def c19_9 :=(uF (fun a b c d e f=>jA 60 0x58484d541dc69218f02e3335e6373b9a183c6082d6e09586610deee7c92160ae19a093a72234cc05259cbc37635bab34d28ab9a940bd44ddb9a9c05f2da57c837eb0f7c57ad4ebcb8a0d6951aa989fde54e2fbaf5e7d2697ca1cda5a42b95a41930cc6dae1f448f0acf428fce4568a00e9e2aeea1fa2b6b07f0e5f1adf2619746522b5f6910 0 3 3 [] [a,b,c] [d,e,f]) _) (.eq .ptr false (.t 11) (.c (.ptr none))) (.eq .fn true (.t 37) (.c (.nilfn))) (.callv (.t 40) []) c19_8 c19_3 c19_7
def c19:AFn:=⟨5,121,[.tmp 10],yB 11 0x25766e1190b89509c c19_9⟩
def c20:AFn:=⟨0,1,[.tmp 0],yA 2 0x58805717b39038909c⟩
def c21_0 :=yA 9 0x1aebe21b0bfe0df0cf559d4ba3449dc55b4a237b283e15673eb534e10
def c21:AFn:=⟨1,9,[.tmp 2],yB 3 535049883804 c21_0⟩
def c22_0 :=yE 10 0x80398c2fcb27d36873eae0b7baae3a85c401df7f9e355d45480fe634e10 (.eq .ptr false (.t 3) (.c (.ptr none)))
def c22:AFn:=⟨1,10,[.tmp 2],yB 3 532661096604 c22_0⟩
def c23_0 :=yE 10 0x80398c2f810fa4d8184c7d98b5ac2983dba1df7f9e355d45480fe634e10 (.eq .ptr false (.t 3) (.c (.ptr none)))
def c23:AFn:=⟨1,10,[.tmp 2],yB 3 532661096604 c23_0⟩
def c24_0 :=yG 9 0x10c9597ec92a6e48afd099e050862de8caf3fc (.i 999)
def c24:AFn:=⟨1,9,[.tmp 2],yB 3 532422217884 c24_0⟩
def c25_0 :=yA 9 0x38583d281518ef9e1e7604b738b763685e147044909c
def c25:AFn:=⟨2,9,[.tmp 4],(c25_0)⟩
def c26_0 :=yA 9 0x38583d281518ef9e1ea712b709693c285e147044909c
def c26:AFn:=⟨2,9,[.tmp 4],(c26_0)⟩
def c27_0 :=yA 6 0xafdb17ccbc8d5e56ff57dbf9dfa746daac1e12c
def c27:AFn:=⟨1,6,[.tmp 2],(c27_0)⟩
def c28_3 :=yM 32 0x157c9c723b0ebf13f6891fde93e677957357883f7df072092203184fedbb702a9b8d3f047627110945e002da80b76e07b52bae6a48e6dd212deb1e5a22c1ebf9110d7375cd6f6e47f6824d9990dcd2a9948bc6d90fcda7ba5cafecc5f97fc120fe250 (.callv (.t 16) [(.c (.str [119]))]) (.callv (.t 24) [(.c (.str [110]))])
def c28_4 :=(uF (fun a b c=>jA 45 0x4c55fec69f2082ac936114949b62baca198fdfc7d93c5e31fa617d9109916d3b8def3db63503dbe3b817ec 1 2 0 [a] [b,c] []) _) (.i 1000) (.callv (.t 32) [(.c (.str [100]))]) (.eq .bool false (.t 33) (.t 37))
def c28:AFn:=⟨1,45,[.tmp 2],yN 5 0x3406d368e5e5807ec2a8817ac1e12c (.mkClo 57 [(.t 1)]) c28_3 c28_4⟩
def c30_0 :=yK 11 0x1ee2d2ded29a8dcfa0065fa553cc3b14c88db6c5616f51c (.i 2000) (.clo 63 [])
def c30:AFn:=⟨1,11,[.tmp 2],yB 3 532422217884 c30_0⟩
def c32_4 :=(uF (fun a b c=>jA 86 0x89c727fc359660e7117f3fdcd4b4fdc26a54a47c81ef5b6fd8263ed093613aa0ecce7cb27d57cf584cc5628b7534d97e73bd6a3f2c227c2383c9f76b478b1056b088c570ecb65060d5dd83b613ce4c1e36ad8e3150e03da3108e3ddee9f6fdea8345d3d54cb4757375db1cc9ac7e71ffc551b0b60c27497cba735c30e2a82a658a36955c4211bc257f0512c 2 1 0 [a,b] [c] []) _) (.int .i32 119) (.int .i32 110) (.next true (.t 59))
def c32_11 :=(uF (fun a b c d=>jA 89 0x9ba611c73786fe02b2b9081b029407db1dfd118054ecab201f6a2924dc67e2efd63625dc0c4dc3f663e5be803e50a8c6ecfef95a65f7fd08d02f3f5bc1e1a1379243560e94f50c923d7c6404aec966b297f9d9f85e14d82fb3ecbb185dcc27a621ee51440ec03fe285b48d9123ccba4e154449d5b90 2 1 1 [a,b] [c] [d]) _) (.p 0 0) (.str [32]) (.range true (.t 58)) c32_4
def c32_14 :=(uF (fun a b c d e=>jA 42 0x69fe361d8dce6b0afe308e0fa5f3a132676e5e9077fecd089cead23852657114dcac7b7d5042f62405ed4a3c43275e12e0ef19c4665904966e5011e0bd82a4dd8fa71e155479ac7594266a0ad41c3bfe75922ffe25310cd7f87a67c82dbc3c27719ac9d4248a8a8a2b6f07430e23d288b01f4858f0f57a3348fcf64470cd7149d5ca8ce87c0b5033b7f453cda085dba4ef15f6d92403806e4579f9da58237c9f0a918e9be67262df4ddb521932dc 4 0 1 [a,b,c,d] [] [e]) _) (.str [115,116,101,112]) (.str [105,110,116,114]) (.str [44]) (.str [111,114,100,101,114]) c32_11
def c32:AFn:=⟨1,89,[.tmp 2],yB 3 0x2d1db17fc1e12c c32_14⟩
def c36:AFn:=⟨1,4,[.tmp 2],yI 4 0x3e74bc8c76a4aa590df662612c (.nilfn) (.mkClo 71 [(.t 1)])⟩
def c37_7 :=yI 86 0x19f37097cd9bf4b509c377b8b6e492526cd2708e4ee2d53850e56419a57df4f1ad11c7673918aa4b79842e3c5d1f1725edaa1441a112513319f95b6480f6a8005625c8016554cc8c5887afdea288a8a4bb184268a4bb647a499738e728de26a872314fc015de02f40bf5a547f8935ac56dab2f2c16fac14e5335f9cefe1797b1eb053efd0eb4c05c12794cd5f860a772a9bbe3cf0c1b584e910 (.str [44]) (.slice 1 (.t 84) (some (.c (.i 2))) none none)
def c37_10 :=yH 109 0x1a32730d020f33df90443f50a3a3f95853d154f11df31489b948c6594dc7eccf7754ad9f0e6ec4a296869c01dd44e166f26274f0a0c7e2995567ac6ce2f91dc63b1931b0d10fd700717a5947be98661d37ed0d2d7900fdeece9b06d184bad272bedb8636061f7e402242a6aff5185bc9c4f7d46a93eac1316d30e1c60539cce1cec5d7efeef516b67b314618f7c186a540395d2cd7a14b9daebe3bf57c6db1f65a42bf7892920af40c2942941ebec153d4992d36dca4b6496897d50 (.str [111,114,100,101,114]) c37_7
def c37_14 :=(uF (fun a b c d e=>jA 51 0x2b0bb3c48a3dd3080c5949722e87788f075d90c9bbd6c563c73d7b030965f9c7ac5adf4de7725045a84e3171ba47f01444de4799532833ef7e1a4f05db8e846adf5f764d27fc8f0de1ece6812732bb404ad43c97681571f34c37541dec782fd29d7034a56b484a49d913683bbb80b21acedeba604f9422fe590bfd551c 1 3 1 [a] [b,c,d] [e]) _) (.str [105,110,116,114]) (.slice 1 (.t 33) (some (.c (.i 2))) none none) (.eq .iface true (.t 36) (.c (.nili))) (.slice 1 (.t 48) (some (.c (.i 1))) none none) c37_10
def c37_16 :=yL 25 0x1c05227b65aea0677eb869d9f09a5c9716a4a8356ac72069de1c0bc6114599bd9fe7e42e585e84ff44d66de518bfb135c8f5c5767a91e461a7cd24f47ad640d12c (.str [32]) (.str [115,116,101,112]) c37_14
def c37:AFn:=⟨1,109,[.cellN 2 4,.cell1 3],(c37_16)⟩
def c38:AFn:=⟨2,8,[.tmp 4],yA 8 0x4ca912ac4b5bada95be74748b5433793c1109c⟩
def c39:AFn:=⟨2,8,[.tmp 4],yA 8 0x4ca912ac4b5bd01d3e4694c8b54335b925109c⟩
def c41:AFn:=⟨0,3,[.tmp 0],yM 3 0x119018f8aadaabbcd2d109c (.build (List.replicate 32 (.bool false:V)++List.replicate 32 (.i 0:V)) []) (.box 64 (.t 1))⟩
def c42_0 :=yG 12 0x10d946994df92139c88212033dbb90a1277d5331866f613863088dd53fc (.i (-1))
def c42:AFn:=⟨1,12,[.tmp 2],yB 3 532422217884 c42_0⟩
def c43_3 :=yG 44 0x7eb3c8dbcc362e026e60fcea26dddbda280c62aa36ebc85ed171008da9453f02d1659e36c3c5941ffcb7e2da4b423d6ca700c90d9a4a588842317e8fa1d7201c75d2fda393e9b98e43c32c08d42ed68b09ccd9aa617c6bc89f4e6cdc56f389b8b2546627d0305f0caaf3ed23359f1346f17f3055a61523330f3317477752c36c26312829bfd500313880220a58eff48c (.i 114)
def c43:AFn:=⟨3,44,[.tmp 6,.tmp 7],yB 8 0x1da1d5b8829afa5512c c43_3⟩
def c44_3 :=yA 31 0x163582b14af67cc345a5386575cc2ac1dc4e543f1a4fe84b8ed81da4a0e3abb38c1829c80db86533731d8ccd6d9af945f088d28dd8c215b13bcd0d234fcaef9209cad25fe500a6d495940a6e183e9aa0fe02409c88d9a0dfcc914d7bc8d57b09ca21e5040bc6c67e0632d0ff48c
def c44:AFn:=⟨3,31,[.tmp 6,.tmp 7],yB 8 0x1da1d5b8829fb95512c c44_3⟩
def c45_1 :=yA 18 0xc76ebc96030c854094f365d404939cf542cfa074f4d5ede1315bb516030cf9d8df113365cb2acd892f8f6899711948c
def c45:AFn:=⟨2,18,[.tmp 4],yB 5 4789558483587228 c45_1⟩
def c46_1 :=yA 18 0xc76ebc96030c854094f365d451becc919d5a3305855f7320734bc79b614ff9d8df113365cb2acd892f8f6899711948c
def c46:AFn:=⟨2,18,[.tmp 4],yB 5 4789558483587228 c46_1⟩
def c47_4 :=yA 41 0x37c9d29c042804c226315cb6033de6a49da356261b0f784d17217d31fe3560356ffc7e6ceb8f1354028c15266a945d0d5e3808ec2383dfcc4a18e27eb7e207993c6f67eb6e5876c04007ae1721a0315db39b9eada31e37d9cb1436b177d500f4ed8c265d20bb7cbf9b3cbd7fa86746663aaaf0a4442cbedde9ac2ce4e5c34e1a6bd69a2ce8bae9340b88b1794bbb48c
def c47:AFn:=⟨2,41,[.tmp 4],yB 5 4789558483587228 c47_4⟩
def c48_3 :=yA 143 0xb7109f41aba867fdb1fd839c739fd257473ee64ae0a2e48f20957aa63db307adc3d851b58ee662fecef484ae1ec291c2fc3c5bcca6a72e9ae326da59a5f8e401e8b05bab00bf4d6307baed5c50f5d2945a68e8cadb025cb6d04ba9a6f64a4495b35c1798001da35f469223e6e0b3f9e28164bd4f3c0d52cc3907dc5fad6d3525e964a6b5a1a2c4af7a793ade9dfe8b0c55580d85da9bc9c8a8
def c48_4 :=yB 101 0x465ead699ebea3de9bea367cedb5686c2a07b4d8a548c c48_3
def c48_5 :=yB 94 0x17be911997b99b8432b8351abbe87940c708c4d110b36c c48_4
def c48_8 :=yG 87 0x20b32d8a7da757ad42ff828bafd5d3a06052d37f638da859b91e170fe0b9dcae01739d3455b4ad4f485df862cdbc92773c1fbcac360a6a50558b0eaee39b2c0e3783ca1128790094e74cfb349d838859631f1b118959701db2840b9da0bed63c947b227167e2b6eb2350dd777e3a0f9a6bf5f4d5d24c (.i 1000)
def c48_9 :=yB 53 0x5594d1cd5fc4cd6cc0a4383126ad82673125e15598b1a6213517f87fc07c618299e897142350e76ebad5019a5a2af393cd794d84e0f505927d800ab836c5c63bc968722659e322f915cf63cfda1e436f03f2af29a3c218f3d20a4751e2416e6aadf43845ec0a302c668c c48_8
def c48_10 :=yC 89 0xc63634c8f6fdd32ce59cd23534f847afb2f1f90d55a4fcc817d11b7dfa34a78ec2febbfce030 c48_9 c48_5
def c48:AFn:=⟨3,143,[.tmp 6,.tmp 7],yB 8 0x1da1d5b8829afa5512c c48_10⟩
def c49_0 :=yA 17 0xbaf427184b8fc522a6ba358250b2ebefcbd9417143d16cdefaddec569e9bab11db93fc
def c49:AFn:=⟨2,17,[.tmp 4],yB 8 0xa45c4dc18cc1ea998cc08d075bd7728b3e25932d109c c49_0⟩
def c50_2 :=yA 19 0x48d6cf32540517b972ef323930bb5c0fd213b1dea2672e6367427f91b3993dee008db546fb77e40a819dadd7bfd3bc9441011dd1521d1fab08ce2bbbc5528f070cbbd01eff3e9e009221114b3c9436d3379cc7fd4d0
def c50:AFn:=⟨1,19,[.tmp 2],yB 4 0x478b5ad0581f49ad09c c50_2⟩
def c51_4 :=yE 40 0x47d6470a4c40d21775e0b05b84aef7b230bc94ca6ca65715c03e56744b861bbb1c8e137ec4fa83cda7995efa3a2a51bea9c49ea6e86153c84179a6033b1aaf4b8c3edca9f671dfa6fecf8f600961d80a9389ad4ff9d64da9608c4dcf330c3e2334b7b312f1b939950552430a55c77bc7f0c2a07424603b6e0abf0cfdc236c1f8ed08cae1de831fd5864dbb66578af6d80a4890e1948c (.slice 4 (.t 18) (some (.c (.i 1))) none none)
def c51:AFn:=⟨2,40,[.tmp 4],yB 5 4789558881718428 c51_4⟩
def c52_0 :=yI 21 0x22860a0d8062f934b28b8a94914a436083e82041db06d803e4af59fecf017f74b5 (.int .u64 18446744073709551615) (.minI [(.t 11),(.t 16)])
def c52:AFn:=⟨2,21,[],yB 7 0x35fbc08a7c1362df7708111bc c52_0⟩
def c53_0 :=yM 12 0x28acf3629c132e18fae52a8018c4ce24b5b1616f5ac (.eq .ptr false (.t 3) (.c (.ptr none))) (.eq .ptr false (.t 9) (.c (.ptr none)))
def c53:AFn:=⟨1,12,[.tmp 2],yB 3 532422217884 c53_0⟩
def c54_0 :=yE 8 0x97181ddb1483dc310daf60ea68fe0a697dc80c68f073dd106732334e10 (.eq .slice false (.t 3) (.c (.nils)))
def c54:AFn:=⟨1,8,[.tmp 2],yB 3 532661096604 c54_0⟩
def c55_2 :=yI 19 0x27b8fe86d823a21c1f7a5077346ad1d41bcff76c69c11e50c698f50cef1ace0ed621dab6bb6be5b0641e11f7debb919809b5a603316cbc4cd71eba7c4f5b65c59d36f2b65bbbfcd6707793d52909c (.i (-1)) (.callv (.t 11) [(.t 15)])
def c55:AFn:=⟨2,19,[.tmp 4],(c55_2)⟩
def c56_2 :=yI 19 0x9ee3fa1b608e88707de941dcd1ab47506f3fddb1a70479431a63d42c56c8398b777844a3a12565ee542e0d4630ee55029ae175583b316cbc4cd71eba7c4f5b65c59d36f2b65bbbfcd6707793d52909c (.i (-1)) (.callv (.t 11) [(.t 15)])
def c56:AFn:=⟨2,19,[.tmp 4],(c56_2)⟩
def c57_0 :=yA 9 0x25c6d299897ab07ce42b1853943c0b88d63d78808c703a709c
def c57:AFn:=⟨2,9,[.tmp 3],(c57_0)⟩
def c58_0 :=yA 9 0x38583d281518ef9e265142afa5331a285e147044909c
def c58:AFn:=⟨2,9,[.tmp 4],(c58_0)⟩
def c59_3 :=(uF (fun a b c d e f=>jA 15 0x10cfe5ce4de74b0056b67386b8492d57a82c8a98fe86f9ed712ae73068e026c391510ce1794dbde1e450f0ab01050b0a3ba7b68abece95ac5c6318d7ae07f8cfabe3f41f6e39589297b28da3ed6886cb785188b219ef7419b6d775757fd2b58e15c25e8bc4d4750 6 0 0 [a,b,c,d,e,f] [] []) _) (.str [119,100]) (.i 6) (.str [119,110]) (.str [119]) (.i 7) (.str [110])
def c59:AFn:=⟨1,15,[.tmp 2],yB 3 535408201884 c59_3⟩
def c62_0 :=yA 9 0x38583d281518ef9e268250af75e4f2e85e147044909c
def c62:AFn:=⟨2,9,[.tmp 4],(c62_0)⟩
def c63_0 :=yA 6 0x2200dd1a0a0fde9ef051a44e4ebffa746daac1e12c
def c63:AFn:=⟨1,6,[.tmp 2],(c63_0)⟩
def c68_2 :=(uF (fun a b c d e=>jA 24 0xd33ff95e2a70fb0a47b03916ee890f2e698cb3e36f3fed8022696a41d19a9bcd3ff3dbd7bb5698f08308a23d5858975d2508d3baaa4a6b7b1298c7c1ebbabaf80d7e705f64239de7d68cb485f6c826a603338c5fdfd4d0 2 3 0 [a,b] [c,d,e] []) _) (.int .u64 4) (.int .u8 15) (.ixStr (.c (.str [48,49,50,51,52,53,54,55,56,57,97,98,99,100,101,102])) (.t 14)) (.ixStr (.c (.str [48,49,50,51,52,53,54,55,56,57,97,98,99,100,101,102])) (.t 17)) (.ofBytes (.t 22))
def c68:AFn:=⟨1,24,[.tmp 2],yB 4 0x478b5ad0582ceecd09c c68_2⟩
def c71_3 :=(uF (fun a b c d e=>jA 25 0x8dd3ce399d5fa8031c546821b679819b745645f4ae43837b73016f55c306523969a10d5166316c8f54e858653f5425762073585a70f3c178f903c10fa5662d86c25a80200d8c6d680e2326d77f0c95f3088824a61f91f05cff9c18071 1 4 0 [a] [b,c,d,e] []) _) (.int .u8 10) (.lenS (.t 5)) (.sliceS (.t 12) none (some (.t 14))) (.sliceS (.t 16) (some (.t 18)) none) (.callv (.t 21) [(.t 22)])
def c71:AFn:=⟨2,25,[],yB 2 16900 c71_3⟩
def c72:AFn:=⟨2,8,[.tmp 4],yA 8 0x4ca912ac4b5f0afa7735d8c8b54335932d109c⟩
def c73:AFn:=⟨2,8,[.tmp 4],yG 8 0xb76f4fc2d5e40a01aaabc012648b54335df1d109c (.i (-1))⟩
def c74_2 :=(uF (fun a b c=>jA 26 0x438a194f6e447b62ee855a17fbdf1013958fd273558760abe0bbe95332234e522dca54919d5cca5de44c330de24bfb30853cebc68779177343f4997c2d75b5f9f2d42ff51c 2 1 0 [a,b] [c] []) _) (.str [80,97,114,115,101,85,105,110,116]) (.nili) (.eq .iface true (.t 17) (.c (.nili)))
def c74:AFn:=⟨3,26,[.tmp 6,.tmp 7],yH 8 0x1da1d5e1cea3f45512c (.nili) c74_2⟩
def c75_1 :=yE 24 0x49edff0091937388ce5fdc2b584b02f43b52e924d3968176ada8d3809d482fc832ed20b8ca3062c3ee514ff401cf53538ad7d109922b9d2c394773fc (.eq .iface false (.t 12) (.c (.nili)))
def c75:AFn:=⟨1,24,[.tmp 2,.tmp 3],yB 4 0xee54407cc8d12c c75_1⟩
def c76:AFn:=⟨1,4,[.tmp 2],yI 4 0x3e74bc8c76a4aa590df662612c (.nilfn) (.mkClo 107 [(.t 1)])⟩
def c77_1 :=(uF (fun a b c=>jA 16 0x2a89c9034a2df7ff11680fd5001bce9553177cc45b9695e81fdce15b1012cac5cc535ca6654d0 0 3 0 [] [a,b,c] []) _) (.lenS (.t 9)) (.lenS (.t 11)) (.sliceS (.t 8) none (some (.t 13)))
def c77:AFn:=⟨2,16,[.tmp 4],yB 5 4789563858358428 c77_1⟩
def c78_0 :=(uF (fun a b c d e=>jA 21 0x21e648d99583138512b2cabf752476052ac50c8e1f7ec0dcbc6cb212be06a6affd7e2a5399c 0 5 0 [] [a,b,c,d,e] []) _) (.lenS (.t 5)) (.lenS (.t 7)) (.lenS (.t 12)) (.lenS (.t 14)) (.sliceS (.t 11) (some (.t 16)) none)
def c78:AFn:=⟨2,21,[.tmp 4],yB 5 4789558881718428 c78_0⟩
def c83_0 :=yA 19 0x28889a551ac283ad5b751d1700d8545e9e6e0d799794ddcaccde6e67d9b4d3a4c003eedcefe9d07195391e7267185d63c
def c83:AFn:=⟨2,19,[.tmp 4,.tmp 5],yB 6 0x163572952108f7112c c83_0⟩
def c84_2 :=yA 43 0x1405424e7f5ae194421867bc62d3f59f9bbdf2b3742dc58da3f1ffee0d60df9133534946010c9d7aad8b0d2a76f0998b4449fd37944c612161ba2ccecb814a2f9eb99ccf6be2021f0e9e0c2229a7bbf5913f03c4a5697cc9762d2121f92c39c0a038b574f2aff40b998301b42718bd47db3bd705599d7fce030
def c84:AFn:=⟨2,43,[.tmp 4,.tmp 5],yB 6 0x16357295216ca2112c c84_2⟩
def c85_1 :=yA 25 0x2b602c69e43b8ab58fdad56cf4ff802ce907911391c621a74499b9a05e6fb67c7c9d71ae667822cb00c588e5cef726ab7654556983121e3237caf1963c
def c85:AFn:=⟨3,25,[.tmp 6],yB 7 0x17d6b927192d09c c85_1⟩
def c86_1 :=yA 25 0x3814e9431792cd33269798def094517bb3b88dae78cd21bb36429d0e44a04720d9c1a130cc1c018343e228345156ec3f82ed9781d56713d1a9195ac
def c86:AFn:=⟨3,25,[.tmp 6],yB 7 0x17d6b92b404d09c c86_1⟩
def c87_1 :=yA 22 0x3cc9a179697ae6b4073474e2610a7808045ee48e0e3d46aef459af65feeda887bd0d6c67acebc77e92e528cbee0ba39d998616d60975f5aeb4308be9148c
def c87:AFn:=⟨2,22,[],(c87_1)⟩
def c88_1 :=yA 22 0x4a978e14774a27f8aa1ef2c3cdf1f5131094cdd8c2c83d0c8905c440273183d816aeb08e18ea29e098b5176b28e185221de565a396916cc
def c88:AFn:=⟨2,22,[],(c88_1)⟩
def c89_0 :=yA 8 0xa4dd65cbb174afc4d9c2965ef4832fcc8ebf6e30d09c
def c89:AFn:=⟨1,8,[.tmp 2],(c89_0)⟩
def c90_2 :=yA 53 0x22805950e40bc39fc11a057980dbf592dfb6496215e716b4c52d8f49396defad4e96acd5cd73fdcfe199fbc12766c6cea6c52aff8e75c4039b1eceb4a8f09f964297bdf7775ac
def c90_3 :=yF 31 0x5076c6398e99d0adff6ae8499631dfb802f94db2da1a384d046785720311feee1c23bf7399611a8f943d5c67793c4cebba639b4ba91ec8eae7c661d354cdb1cfbbf06bad4468210ad0 (.eq .ptr true (.t 16) (.c (.ptr none))) c90_2
def c90:AFn:=⟨4,53,[],(c90_3)⟩
def c91_0 :=yA 9 0x10c95981326613d3471ba96dd402e6dfd2f3fc
def c91:AFn:=⟨1,9,[.tmp 2],yB 3 532422217884 c91_0⟩
def c92_3 :=yE 29 0xef1ec0078a20619b2598fa1f15c8526fe03334692deb464d358121ae4961e2eb3b03d8fefb433da80c57d86f790d91e4f1c65b3421386b5e512dd9a5776b30ae79655b92829ce0dfb0b94afdba779d0c50a889989a8403eb8690a7cfae0a8e4a8f460d4225a2a2e262a204dc0789794563411bc (.build [.i 0,.i 0,.ptr none,.bool false,.bool false,.int .u64 0,.int .u64 0,.i 0,.i 0,.ptr none,.bool false,.bool false,.int .u64 0,.int .u64 0,.bool false,.i 0,.nils] [])
def c92:AFn:=⟨1,29,[.tmp 2],yB 3 533019414684 c92_3⟩
def c93_2 :=yI 36 0x349129a51fbf74ef702f807cd67979d6855cda5f86ef580d6b46bf056e085aab873de0bfb61fc74f79b32a69a5ff90d6c633f595f51b7a92c0b87a3255a4b0f1893f7e2e3fc7344a461bc5d4814f695424eee08dc8f7fe87fc392299ed467f3603db3ad6c405e375dc9f364dfdb90 (.i 2147483647) (.minI [(.c (.i 1)),(.t 30)])
def c93:AFn:=⟨2,36,[.tmp 4],yB 5 4789558483587228 c93_2⟩
def c94_3 :=yG 57 0x91691a182c79e6679735a38e71292a63add526868fbeec63bda8fe25a2d75d9efb58df1d6594fa8a396c7e9c8db8d6b55e63603be6d65f2154eb499775e7ad36371980b18c15c13be39d1b8b1e713745ac62baeb08fac28939030ce1fb966f436217ed67de0fef150590de9ff748c (.int .u8 1)
def c94_5 :=yB 27 0x1f3b5b8c9b1c4229789ff805109cfefa38fb425520504227d47b670e70cd7484af8903ecaee42b606528dc32f674d86d3223001dc01afd7868e6910 c94_3
def c94:AFn:=⟨1,57,[],(c94_5)⟩
def c95_3 :=yA 32 0x221754c439794ed977d5ea833ed8466b1b865c6e6595a7e190418da3a98ba75ce449887446fbc78db70a3d2f69c556e87ac65301ced51e160ae11f35da01091f3ad8cdc9e3d2462410a2ce4fb26d32e7d7c8bbed6582d9170a528395b2b9869c9c1d3cd17320037197c174e554b29808a645e690eb613dde85489ea0116b7ba9912943ab42acad5340d15ac
def c95:AFn:=⟨1,32,[.cellN 2 4],yB 3 0x2a04996addacc8eabc1e12c c95_3⟩
def c96:AFn:=⟨2,8,[.tmp 4],yA 8 0x4ca912ac4b6154ac7f89fe48b54335932d109c⟩
def c97_2 :=yI 19 0x9ee3fa1b608e88707de941dcd1ab47506f3fddb1a70479431a63d42c56c8398b777844a3a12565ee542e0d4630ee55029ae175583b316cbc4cd71eba7c4f5b65c59d36f2b65bbbfcd6707793d52909c (.i (-1)) (.callv (.t 11) [(.t 15)])
def c97:AFn:=⟨2,19,[.tmp 4],(c97_2)⟩
def c102:AFn:=⟨2,8,[.tmp 4],yA 8 0x4ca912ac4b6245d7b0251cc8b54335932d109c⟩
def c103_4 :=(uF (fun a b c d=>jA 66 0x102086d4a0c6401999f641bace7b8964af3901febe19a82d25eea98ecf612c6f97132d0c0798d25dda63089589a548f8399f0620e607b6fe7328028368457efc457947a34b040503a8c3be35629e4e067b85978e2c6aac3154c3598e621791d5e43c78bcb6c4770bf8c087781b631a5daa788bc72e528d2fb3560b873203e297cbfe08410bf67092ab072ad6cce70536d09c 0 4 0 [] [a,b,c,d] []) _) (.sliceS (.t 44) none (some (.t 47))) (.lenS (.t 52)) (.sliceS (.t 50) (some (.t 54)) none) (.slice 1 (.t 62) none (some (.t 64)) none)
def c103_9 :=(uF (fun a b c d=>jA 34 0x6466b9fedf8de1eadaa8d48c4447be1dc7bfc097bcbbe0ca70abd1b1befc6757782561b2f9ebc9a7e35168c20f50d3a13c2f6c972d58bcf96118582078e1dc6c8876ff7de6aea45dc5069b81aec1eeb618180f018beafeaadb6994cd2ef382cb235b3c43a3750f5ddedddc822856909c 0 3 1 [] [a,b,c] [d]) _) (.lenS (.t 26)) (.minI [(.t 25),(.t 28)]) (.mkSlice 1 16 [.str []] (.t 30) (.t 30)) c103_4
def c103:AFn:=⟨4,66,[.tmp 8],(c103_9)⟩
def c104_7 :=(uF (fun a b c d e f g=>jA 134 0xe03f3ddeaec9ed3a150bbcb56a43f8fd3c8d955b11638a0bb600d7bef9ea7daacf12a9982b90136fc2ec53399df1eeb41c53e0035a9861a3254b22bfcfe3f2e0c069c9d20864a9569809121aae98c2a93689c3ee3b057b6d272c4660fe256e06a384654450152b8347284071002896dbc146975aeae403e0c76a23070376b5385c38167dd90543d3b30fcac9e3e4d76d9397c332a8d42cd2dd4ffdf36c 6 1 0 [a,b,c,d,e,f] [g] []) _) (.int .u8 95) (.int .u8 48) (.int .u8 57) (.int .u8 97) (.int .u8 122) (.int .u8 10) (.mkIface 171 (.c (.i 2)))
def c104_8 :=(uF (fun a b c d e=>jA 163 0x50581bb0bb841a421fe4076eccbd240f646c949e07297b83a4ac3f5444ae846c3fe326f7498d4cb9dbfd8efc5828de9b3862e140006af2f5e2f20fbdd03b8aa7e5881a3b787a521a5f690440dfb93bce17237f77beca8f48792ea33589fb3c96fb28d29312898c13f392212118a5e9b8714b5e32ce75f9b3cf46878d44ab4ad925a9c625f8ecc640829bc10cd24f82d27b5b58b25ad0fc1dd5a3afbf70fb87b3ee9b167b9db90 0 5 0 [] [a,b,c,d,e] []) _) (.convInt .u8 (.t 135)) (.mkIface 171 (.c (.i 2))) (.mkIface 171 (.c (.i 1))) (.convInt .u64 (.t 145)) (.convInt .u64 (.t 149))
def c104_15 :=(uF (fun a b c d e f=>jA 172 0x3b2e64d607e76f29cec7291882d0ffdb7199e3aaa988e3f69ef814c2de02cb703072298128bdd422a8df4f12d5c0fe03e46b20a2b9ed8836358d6bf813c3b7a8b7e356f49602b57cfeb707910714e62d957981bd3154a9a9c12f15295f18cec2cb2a21d975864eb60f4288e6e1859258d20ab84fa052f9d2d4d1efd93bbdddadf9cf690dfaf07a00f8dba52dc 1 3 2 [a] [b,c,d] [e,f]) _) (.nili) (.convInt .u64 (.t 94)) (.toBytes (.t 98)) (.mkIface 171 (.c (.i 2))) c104_7 c104_8
def c104_20 :=(uF (fun a b c d e f g h i=>jA 76 0x3fe46aefe90824f34076fce000bdc6e2e3a145151baad7bf3f523cc2466b81375d4048c9678630d4b663a659ab07b944d462b440338a0a582f822c5cbe20137442c0085ff2c8da693b27c9d9d3f4ea0cd986072f73d9411eae1ea884a31193e0fb18f26479135ac 2 7 0 [a,b] [c,d,e,f,g,h,i] []) _) (.int .u8 111) (.int .u8 120) (.lenS (.t 53)) (.ixStr (.t 57) (.c (.i 1))) (.sliceS (.t 62) (some (.c (.i 2))) none) (.lenS (.t 65)) (.ixStr (.t 69) (.c (.i 1))) (.sliceS (.t 74) (some (.c (.i 2))) none) (.sliceS (.t 38) (some (.c (.i 1))) none)
def c104_24 :=(uF (fun a b c d e f g h i=>jA 52 0x113ea2404f4c3788fcb74befa045baaec0becb59089f359fc2c847f856cc06aac30a53ae6b114e12f56e4f9eba893e65977c5aaa897f760b9b1fd927fdea8da6995cf27606def5d954bf905fb099ad1400679aa239250e094c159403d1a806d3b618d59714065cf2ad921cf7ca1911723c240bdcfd3fc 3 5 1 [a,b,c] [d,e,f,g,h] [i]) _) (.i 36) (.int .u8 48) (.int .u8 98) (.ixStr (.t 35) (.c (.i 0))) (.lenS (.t 41)) (.ixStr (.t 45) (.c (.i 1))) (.sliceS (.t 50) (some (.c (.i 2))) none) (.mkIface 171 (.c (.i 3))) c104_20
def c104_26 :=(uF (fun a b c d e f g h=>jA 94 0x6680eb7d8b2c1295146af4059ccb7807b4d0a04544e35ec296ca339c5e07f1948c20225fa33e3430d45e6d0967b2eb298654dcfafa3da9b66aa76d91151f1b067aea0829a845f39f0e39616098b1ae736c5c1444ead26ad29ca96858877e73fe7f41a1303710923e8037d4ee1a1fa5e65e26a47d84f0641f4a7b6a5a8e8984ebc48676ab0ce7945c1260da877c2aa887b231cc146dcb24611a3827c9021da9debf1ce10 3 3 2 [a,b,c] [d,e,f] [g,h]) _) (.int .u64 1844674407370955162) (.int .u64 1152921504606846976) (.int .u64 18446744073709551615) (.mkIface 171 (.c (.i 2))) (.mkIface 171 (.c (.i 4))) (.convInt .u64 (.t 86)) c104_24 c104_15
def c104:AFn:=⟨3,172,[.tmp 6,.tmp 7],yH 8 0x1da1d5e1cea3f45512c (.nili) c104_26⟩
def c107_5 :=(uF (fun a b c=>jA 80 0x28276adefe233e626ba3eb251a5d0c8f451166a2bcafa146f8bcf7a5ac98cbe7e48927d49a46e39ef3b18def6f80a0f8e40da9df5b42ce3c60ebcc20b15d749c9c7734787a25d40f2a327a90217e716639c1940d9fa7ec5ecbc22de5ba78ce72facc4e8f8e073fadae63ff4a81e54e9690aeac16ed55a81cb88142762464fc7dcd50293aab1b0d6ed36c 2 1 0 [a,b] [c] []) _) (.int .u8 119) (.int .u8 110) (.ixStr (.t 55) (.t 56))
def c107_8 :=(uF (fun a b c d e f=>jA 94 0x43608530ef6103297d8fa6ad9017926a1c23cc66eb99110ffeb7470ef32a6f2e878e91a13c2642d702114ce713578f7cf305cbf387790639e5e683824cd297fa968f6f44ea5c45886f5b350acba718b6a53b89231627af68bd3afb0f71667bb72e93f64a28ca52d17e971aac44d0b810d600ec6054b395ac 0 5 1 [] [a,b,c,d,e] [f]) _) (.lenS (.t 37)) (.lenS (.t 42)) (.callv (.t 80) [(.t 81),(.t 82)]) (.lenS (.t 90)) (.slice 1 (.t 89) (some (.t 92)) none none) c107_5
def c107_10 :=yJ 32 0x9884e4d7e861ac65d6cec791c30f27324b6e0a95fa86223d355e5a4eb648bcca276a444248694f1d89d2a6a161d56f55edd0b06cfea19d302bc7ca6b9925325824e4f4c1170b936d9b39348f3ebdee679cd96fbd1f8dbf1bc (.p 0 0) (.build [.i 0,.i 0,.i 0,.nils] [(0,1,(.c (.i 7)))]) c107_8
def c107:AFn:=⟨2,94,[],yC 11 0xa50ec23a06d1bfbf76836411ec0639a3c13c3a (.label 0) c107_10⟩
def c108_2 :=(uF (fun a b c d e=>jA 28 0x5f73b4a8f04438c9866f661734cab43c98697a1224aabca00e2dce9fafef94a63d8167d80703224f3d3213f18e31e9467f5b316d367de81681d86378768562bb2124fce3484dc2f60818bf7c19bc67a9cf6f7fe85575d06698af1fb55c59358136aa848bd97e3fb01fc830 0 5 0 [] [a,b,c,d,e] []) _) (.lenS (.t 7)) (.sliceS (.t 11) none (some (.c (.i 2)))) (.eq .iface true (.t 16) (.c (.nili))) (.convInt .u8 (.t 19)) (.sliceS (.t 23) (some (.c (.i 2))) none)
def c108:AFn:=⟨1,28,[.tmp 2,.tmp 3],yB 5 0x981e6fb88daa9d8376bd12c c108_2⟩
def c110_1 :=yE 29 0xcbd007afe866d25979685191987ec297f6a4a30c3529ab3b4206263e6ef43b34364a1072cff07c03b8a48734d33b188fb3e81644b3d3b63a4f1501fcc0c9e97ee800d1725106234779d76bd6a8fcf60c0450242ba0889991bc (.build [.bool false,.i 0,.i 0] [])
def c110_2 :=yA 48 0x65bef6d184778fae1fe07114497a031a70cd173815e1e82de383a9c4e389715e717bcc61ff9bb6cc2daaed8717624c4d390db07c4b4be6056ef94de91bfb050d3263c6c
def c110:AFn:=⟨2,48,[.cellN 4 3,.tmp 5,.tmp 6],yC 7 0x8e302c0e1b468cb7e4ea210694c391bc c110_1 c110_2⟩
def c111_3 :=(uF (fun a b c=>jA 58 0xe39be109433537092b3a7a39fde5cfd406d02cf4f7effa99ff568e399de947c6351696b76142686756c888d7fe6d20412cb7413a13b2cc6b928a80c60367efe29359254c025826f3c5ed19936d46a0c123f48bc71ba9cc05441598196082bd6b0a9d5ce3235e84e031c998e89b752f5a3b58a13fde0ffa96ea91587d21850 0 3 0 [] [a,b,c] []) _) (.copy 1 (.t 33) (.t 34)) (.slice 1 (.t 32) (some (.t 35)) none none) (.convInt .u64 (.t 51))
def c111_5 :=(uF (fun a b c=>jA 18 0x1d36e5883e6236364ac6dfc4d40f5ddb82cc7adf98f95a381751f3af917440b1eaf568ab3a037315c49ec3d892c4e6bb748c 0 2 1 [] [a,b] [c]) _) (.minI [(.t 9),(.t 11)]) (.slice 1 (.t 7) none (some (.t 12)) none) c111_3
def c111:AFn:=⟨2,58,[.tmp 4],yB 5 4789558483587228 c111_5⟩
def c112_3 :=yE 48 0x1c4e3b639941ec0bf06b47fdc8cbd70fdec9fdf4e3ee61fe6532e14f50135241f703921311c20220b62aae0d82c7d71fd81ffe7ad1e5c9633cccb641c20f3a5ab66b1ee3a66b1b2a39cff2d6c93e2dca33f23ca198875a0e3d6c8007aefd3804fe3f476c02df4f1c37137c5e4c54d0 (.convInt .u64 (.t 42))
def c112:AFn:=⟨2,48,[.tmp 4],yB 9 0x786d36ca26d35681f42886be831f039c9afb909c c112_3⟩
def c113_0 :=yA 9 0x1aebe21b02c61bf07437efc787308441dda71843283e24899d6134e10
def c113:AFn:=⟨1,9,[.tmp 2],yB 3 532183339164 c113_0⟩
def c114_1 :=yM 14 0x207774792315068591a3ed4f97e9883571624906241b4fff63c14c9beb540ba16187a0de8525a3cce910 (.mkSlice 1 1 [.int .u8 0] (.t 10) (.t 10)) (.build [.nils,.i 0,.i 0,.int .u64 0,.int .u64 0,.bool false] [(0,1,(.t 11)),(5,1,(.c (.bool true)))])
def c114:AFn:=⟨1,14,[.tmp 2,.tmp 3],yB 4 0xee3f9ac8fad12c c114_1⟩
def c115_1 :=yE 12 0x3e74f9865516d1e62928e0bd51a3112d9242c2429c0d77e323c815d36c37c9bce32b68722f004f1a2ae0b68785caf109c (.eq .ptr false (.t 6) (.c (.ptr none)))
def c115:AFn:=⟨2,12,[.tmp 4],(c115_1)⟩
def c116_1 :=yA 13 0x13cd27dc47ea229bdd421dc2dc62c691ed1c6f69c6fca985f5736fab22f7b00a933f1b62b16111b837c31afffc0909dbadea2fff6c36bb1712c
def c116:AFn:=⟨1,13,[.tmp 2],yB 3 532183339164 c116_1⟩
def c117_0 :=yE 8 0x97181dddec2001f91245434d4fbd7c7f08080c68f073dd106732334e10 (.eq .slice false (.t 3) (.c (.nils)))
def c117:AFn:=⟨1,8,[.tmp 2],yB 3 532661096604 c117_0⟩
def c118_0 :=yE 8 0x97181dda95315253d5d498b368fe0a697dc80c68f073dd106732334e10 (.eq .slice false (.t 3) (.c (.nils)))
def c118:AFn:=⟨1,8,[.tmp 2],yB 3 532661096604 c118_0⟩
def c119_4 :=(uF (fun a b c d=>jA 143 0xfe791c72295809e6d973750fbd7d39bc68dadafc6d985b3e55cfdb09fe342b7ddb743b4b43a53a243b52535259abff063dfcb2bf4c237e118b46bff7d58ea0f571ed9edd95e31ab81c70d247df008315cb25d8bfbb0a68b9770b94db53af1ed587c 2 2 0 [a,b] [c,d] []) _) (.int .u64 4) (.i (-1)) .fail (.sliceS (.t 133) (some (.t 134)) none)
def c119_6 :=(uF (fun a b c d=>jA 118 0x1809d5d5ede0a5f82afeafe9e66e87c6a53e8b1e93a3f9431981e3040486cbbd567b8f290234f4b272f33d39bbd255cf7341c864e5070b3af1d172969e94f74763d465ceb9e1bdaba330a2fc3519230c889804f46fc1a953b24944f4ba8ffb3597f1171bc 1 2 1 [a] [b,c] [d]) _) (.i (-1)) .fail (.sliceS (.t 108) (some (.t 109)) none) c119_4
def c119_10 :=(uF (fun a b c d e f=>jA 95 0xdbe7fe5ed6023bbc3024229365023a080bb8b2c9a8c85002ed4a92ea6d58f9c300e28e28224114d04ecb4c43002b242d71774ca7a9fbf7ddef87ee05eac0cce14ef7048e1a3f74d31e91b59afe682bd5ddeadd710238489026fdc04c74408c4858f872f2ba6fc83b0fd24f110796ed6ee5ba6f388efb0ae20cfb9ad503cb12f25fd3d22e0e250 1 4 1 [a] [b,c,d,e] [f]) _) (.i (-1)) (.ixStr (.t 60) (.t 61)) (.sliceS (.t 65) (some (.t 67)) (some (.t 68))) (.ixStr (.t 78) (.t 80)) (.sliceS (.t 85) (some (.t 86)) (some (.t 89))) c119_6
def c119_16 :=(uF (fun a b c d e=>jA 48 0xcc8aa671f3ce00239b52a42a78122adaf7c3ffc482ad7535baa782f10f714d9dacb531af8b6de7acad67c3bf0a7a0e166ac54626a7b9f147bc588444ee9be8b76667f6fb32f54184fbc96a3e6f8e7aa9876056107cd2f5ca9586db41a87116414695ebd4672096b73a53ea80c6d79be8c216ed9798c52cc475f5485c2cb48c 1 4 0 [a] [b,c,d,e] []) _) (.i (-1)) (.ixStr (.t 28) (.c (.i 0))) (.lenS (.t 33)) .fail (.lenS (.t 41))
def c119_17 :=(uF (fun a b c d e=>jA 60 0x13c8339c3e0ef64819d607223c4919d20cbd18fa694a8522a0a1d45329737fff6b5acf03eea4f24687fe07476897c38dc3ee332fc117a75b05ac514086f3a60622f10efc35e91bc 1 3 1 [a] [b,c,d] [e]) _) (.i (-1)) (.ixStr (.t 48) (.c (.i 0))) (.ixStr (.t 50) (.c (.i 1))) (.lenS (.t 52)) c119_10
def c119:AFn:=⟨2,143,[.tmp 4],yN 16 0x2a9ec81d7ed33e3c0484c9b3aeb2631109c (.lenS (.t 14)) c119_16 c119_17⟩
def c127_4 :=yM 50 0x559b2d96bbb6fa5158a175c8dabac4dab17c1b1a1dfe5e625ca3c98551ff914c9d4c3b75a9c3c36fce10b53376c733bab9475c59a501deca22b7467728af5332da58b0b6b97fdba334f466cd6fbeeda066c1568ca0b063a74570bab43fa4ab81f66c1df219403851a919d46b2602d57cc5a46788b269ca28defc2925da34ff4668254750 (.sliceS (.t 35) none (some (.t 36))) (.sliceS (.t 39) (some (.t 40)) none)
def c127_5 :=yF 22 0x5aa06f5881982891aab6f611ab35a1d0c946a55128210ab6ad3002fe25d9366ca03d6f2548efd0 (.mkSlice 1 16 [.str []] (.t 20) (.t 20)) c127_4
def c127:AFn:=⟨2,50,[.tmp 4],yB 12 0x8cc74d0e0dab8e53bc0d36c30ce97109c c127_5⟩
def c128_4 :=(uF (fun a b c d e f=>jA 34 0x625bedfe7527d677dcab0c65127ce65f2d1351e7d908cc2d888926a33356c4f47831aa9892158242bb26d0455c3beaebb3f18563f472896fdc4ec870608336179994e85ab5f85b8bcddc94538ebb6f86ee045d2a1411f631ac87d642b42a3db633be207d229aec1dcedae7aeaf9d91b6384cc15fdbf344c8fb4962954d0 1 5 0 [a] [b,c,d,e,f] []) _) (.i (-1)) (.lenS (.t 7)) (.lenS (.t 13)) (.ixStr (.t 17) (.c (.i 0))) (.lenS (.t 30)) (.sliceS (.t 28) (some (.t 32)) none)
def c128:AFn:=⟨2,34,[.tmp 4],yB 5 4789558483587228 c128_4⟩
def c129:AFn:=⟨1,5,[.tmp 2],yG 5 0xb0e6b2b337afac4ac0f7ecf6d509c (.int .u8 32)⟩
def c130_1 :=yK 92 0x869aab984a11b6a382d9ccb7fba675069bcde70bb37ec8dce10 (.int .i32 95) (.int .i32 33)
def c130_2 :=(uF (fun a b c d e f g h i j k l m=>jA 90 0x1b3196637616aa55843260cabb621abb228718f27088437cc9753b90b6063cfe75906132378b69cc9268a39e37c29e7fe33c996bf3cf73f45c0408fc7dbdfc2c1d63011e58faa4786dc43e2a28017fb451a4912fafd6d3d237d69bb2014e260ec3eb5c72dcc5d53d492a519e48fcbfd8f33a115a2516287a297caf1cd54f6d0 7 5 1 [a,b,c,d,e,f,g] [h,i,j,k,l] [m]) _) (.int .u8 48) (.int .u8 57) (.int .u8 97) (.int .u8 102) (.int .i32 48) (.int .u8 95) (.int .i32 95) (.ixStr (.t 57) (.t 58)) (.ixStr (.t 62) (.t 63)) (.ixStr (.t 70) (.t 71)) (.ixStr (.t 77) (.t 78)) (.ixStr (.t 84) (.t 85)) c130_1
def c130_4 :=(uF (fun a b c=>jA 51 0x2dd22ca5598712f42bde1202f5b2b635feff166f09c 2 1 0 [a,b] [c] []) _) (.int .i32 48) (.int .u8 120) (.ixStr (.t 47) (.c (.i 1)))
def c130_5 :=(uF (fun a b c d e f g h i j k l m=>jA 94 0x25eff0431a3ec43e1a6681834fc56f85769a627d51e78675a6ad1ea746bc10d19267c24e6c2e2e9dadc5c267327392c7116797658ccbd29d72bd734b5f3e7726d35ba414ae707ddeb0196e4af501a2abc2e14367ef7caa9cf68b8ad70eed92b486ceb64e8d19236a990badf7b5e62dca60d94ec9dd452f923106bb40370ef010 5 6 2 [a,b,c,d,e] [f,g,h,i,j,k] [l,m]) _) (.int .u8 48) (.int .u8 98) (.int .u8 111) (.int .u8 120) (.int .i32 95) (.lenS (.t 21)) (.ixStr (.t 25) (.c (.i 0))) (.ixStr (.t 30) (.c (.i 1))) (.ixStr (.t 35) (.c (.i 1))) (.ixStr (.t 41) (.c (.i 1))) (.lenS (.t 52)) c130_4 c130_2
def c130_6 :=(uF (fun a b c d e f g=>jA 21 0x48da94646e14ed2d86c133d6989cf649798cb2d12750f3324d9e1de1ca4b75591aea3da38933cf9f3494136f9d87804c381850 2 4 1 [a,b] [c,d,e,f] [g]) _) (.int .u8 45) (.int .u8 43) (.lenS (.t 6)) (.ixStr (.t 10) (.c (.i 0))) (.ixStr (.t 14) (.c (.i 0))) (.sliceS (.t 19) (some (.c (.i 1))) none) c130_5
def c130:AFn:=⟨1,94,[.tmp 2],yH 5 0x3573c2cf99f4bb50f855c2e9509c (.int .i32 94) c130_6⟩
def c136_0 :=yA 15 0x7e25e1593efd4e32ccd096d4f4c80aaaa28aadb3669363c
def c136:AFn:=⟨1,15,[.tmp 2],yB 5 0x3eb06c7e4af3f7725e4e050eabd8dad4d386509c c136_0⟩
def c137_0 :=yI 8 0x1290ec49185ab4ce522a1666af3a2065a1531f24c (.nilfn) (.mkClo 157 [(.t 5),(.t 4),(.t 3)])
def c137:AFn:=⟨3,8,[.tmp 6],(c137_0)⟩
def c138_2 :=yE 25 0x1c596d4d17ec5dd80b2427045ef802d27d324e96db956b58eb464e5efcc75b3e30a91ae8ad745fd2dcf0312a8e86306c9a2f6003d7b74d43773d0a7a938c8b83cbe0acccc9ae5e446c7b16250 (.minI [(.t 7),(.t 9)])
def c138:AFn:=⟨2,25,[.tmp 4],yB 6 0xd6f0a7a432590d786760109c c138_2⟩
def c139_0 :=yE 12 0x7a06da27d437bfc5240a77f6c69429455d39616f5ac (.eq .ptr false (.t 3) (.c (.ptr none)))
def c139:AFn:=⟨1,12,[.tmp 2],yB 3 532422217884 c139_0⟩
def c140_0 :=yA 9 0x10c959813265b2d157f935baf252e6dfd2f3fc
def c140:AFn:=⟨1,9,[.tmp 2],yB 3 532422217884 c140_0⟩
def c141:AFn:=⟨1,4,[.tmp 2],yI 4 0x3e74bc8c76a4aa590df662612c (.nilfn) (.mkClo 158 [(.t 1)])⟩
def c151_1 :=yM 10 0x7882f3fb20fa4293c59e3d49d8a70cecfdd043979e5a7bc9746497f4a5a4776c5da128c5f2f9257d9d09c (.range true (.t 3)) (.next true (.t 4))
def c151:AFn:=⟨1,10,[.tmp 2],(c151_1)⟩
def c152_1 :=(uF (fun a b c d=>jA 19 0x70baff3017927193fbba4aed6d5c19c8df0bc66a3536e73a3cd0f00fd90e80197047e34aaa1dd8027a086e1cfc30fb944aa3cefd0 1 3 0 [a] [b,c,d] []) _) (.int .u8 128) (.ixStr (.t 7) (.c (.i 0))) (.ixStr (.t 11) (.c (.i 0))) (.convInt .i32 (.t 12))
def c152:AFn:=⟨1,19,[.tmp 2,.tmp 3],yH 4 0xee3f9bb648d12c (.int .i32 0) c152_1⟩
def c157_2 :=(uF (fun a b c=>jA 43 0xa5264c53cef9c9afb351e5bc07fc588be4bbe0a9fddde840513f80d21ac25b41bc07848b17a9b9b0a2e3282133af682bc76a966f72600cc88ed78ada167bb1e523b97622a6a35af3a2ee10c958d255d9af2bbd24629659178086c8c4b0460228d004da1fbac66f48c 0 3 0 [] [a,b,c] []) _) (.minI [(.t 23),(.t 28)]) (.slice 1 (.t 19) (some (.t 20)) (some (.t 29)) none) (.callv (.t 31) [(.t 32)])
def c157:AFn:=⟨4,43,[],yC 9 0xab6e8906737b7b170117b38654191c2213c3a (.label 0) c157_2⟩
def c158_2 :=yM 20 0x1dd18fdd07632213b64d66d78c82e824ec891c7c3c6bc83317cf9b50408326f4db668c84976a4f404bc1177ff07f430628a1f1f4f91517a8bc0a78a2a603940fa137cbab86925a6509c (.build [.i 0,.i 0] [(0,1,(.t 14)),(1,1,(.t 15))]) (.callv (.t 13) [(.t 16)])
def c158:AFn:=⟨2,20,[],yC 6 0x28408e462d438fd990403a (.label 0) c158_2⟩
def c159_1 :=yA 15 0x86f97b8dc13c8db86a1e6666b9e775c33896aae3778993f0b1188c604776689fbe94bb2d69f33e65b90
def c159:AFn:=⟨2,15,[.tmp 4],yB 5 4789558483587228 c159_1⟩
def c163_2 :=(uF (fun a b c d e f g=>jA 91 0x86ba48ad493d3e23158d34ab368392865b0b4b07a544bdcdad9df3a5e7e46984ccd70d552164c7a587c 4 3 0 [a,b,c,d] [e,f,g] []) _) (.int .u8 15) (.int .u64 12) (.int .u8 63) (.int .u64 6) (.convInt .i32 (.t 79)) (.convInt .i32 (.t 83)) (.convInt .i32 (.t 88))
def c163_3 :=(uF (fun a b c d e f g h i j k l m n=>jA 117 0x55f82fae467a62ad36e0d69292d38b49b95a2e31769b5c8fdf84b45ebe6e65523a06bad3125fa2638c8337adf0d62cd5e88082045508af37420148f7569a95593b5060fff6eb46119bc975dafcbce8152dc53d9ea81107d580bd304ab360150cc44594ea7e6f1db4963579eece10 8 5 1 [a,b,c,d,e,f,g,h] [i,j,k,l,m] [n]) _) (.int .u8 128) (.int .u8 191) (.int .i32 65533) (.int .u8 7) (.int .u64 18) (.int .u8 63) (.int .u64 12) (.int .u64 6) (.ixStr (.t 91) (.c (.i 3))) (.convInt .i32 (.t 100)) (.convInt .i32 (.t 104)) (.convInt .i32 (.t 109)) (.convInt .i32 (.t 114)) c163_2
def c163_7 :=(uF (fun a b c d e f g h i j=>jA 76 0x472489e146fe63239d49422497574ec08e31c31056bc98cd316427734f733411aef49ef96c444003406edb830b5672178db667e28c008a020cc91bcafff77a37027b49ed8ba5e5b1ae5e3a2024f59d2e76165f03cd31c96fb801be22146659eb7bcc09f465c5f0b50b5024bc1941a677d09de24ebf671313b09188e70410 6 3 1 [a,b,c,d,e,f] [g,h,i] [j]) _) (.int .i32 65533) (.int .u8 31) (.int .u64 6) (.int .u8 63) (.int .u8 128) (.int .u8 191) (.convInt .i32 (.t 61)) (.convInt .i32 (.t 65)) (.ixStr (.t 68) (.c (.i 2))) c163_3
def c163_13 :=(uF (fun a b c d e f g h i j k l m=>jA 48 0x1b07d31fd5475a07b42c84dbf0e0aced9d167ff8f5ea716d7381144adf45207a646d83613eb9c2fd653ac30cb379fd27a60bff452593535893f90d4744d9a89991aa313ca06758e24324b195207f8c3ef52e2e1fffab6c45ce70de8aee8983dfdcee0363a896689a4d8b19cd783cb744d79ea9c1f21e6b471a4de30ea454198164d346c1970943244f46fe0138c03c2d8cb1bc 5 7 1 [a,b,c,d,e] [f,g,h,i,j,k,l] [m]) _) (.int .u8 240) (.int .u64 31) (.int .i32 65533) (.int .u8 7) (.int .u64 4) (.ixStr (.t 17) (.c (.i 0))) .fail (.convInt .i32 (.t 24)) (.ixStr (.t 28) (.c (.i 0))) (.convInt .i32 (.t 29)) (.convInt .i64 (.t 37)) (.ixStr (.t 46) (.c (.i 1))) c163_7
def c163_14 :=yJ 17 0x434d230e264fcdf21327168a8cf812114f2733c95e19d4ca7e31bc (.int .i32 65533) (.lenS (.t 13)) c163_13
def c163:AFn:=⟨1,117,[.tmp 2,.tmp 3],yH 4 0xee3f9bb648d12c (.int .i32 0) c163_14⟩
def jaJ:Prog := { fns:=[(5,c5),(7,c7),(11,c11),(14,c14),(16,c16),(17,c17),(18,c18),(19,c19),(21,c21),(22,c22),(23,c23),(24,c24),(25,c25),(26,c26),(27,c27),(28,c28),(30,c30),(32,c32),(36,c36),(37,c37),(38,c38),(39,c39),(41,c41),(42,c42),(43,c43),(44,c44),(45,c45),(46,c46),(47,c47),(48,c48),(49,c49),(50,c50),(51,c51),(52,c52),(53,c53),(54,c54),(55,c55),(56,c56),(57,c57),(58,c58),(59,c59),(62,c62),(63,c63),(68,c68),(71,c71),(72,c72),(73,c73),(74,c74),(75,c75),(76,c76),(77,c77),(78,c78),(83,c83),(84,c84),(85,c85),(86,c86),(87,c87),(88,c88),(89,c89),(90,c90),(91,c91),(92,c92),(93,c93),(94,c94),(95,c95),(96,c96),(97,c97),(102,c102),(103,c103),(104,c104),(107,c107),(108,c108),(110,c110),(111,c111),(112,c112),(113,c113),(114,c114),(115,c115),(116,c116),(117,c117),(118,c118),(119,c119),(128,c128),(129,c129),(136,c136),(137,c137),(138,c138),(139,c139),(140,c140),(141,c141),(157,c157),(158,c158),(159,c159),(15,c15),(20,c20),(127,c127),(130,c130),(151,c151),(152,c152),(163,c163)],prims:=[(65,jeI 2),(66,jeH 2),(67,jeG),(105,jch 3 4 171),(106,jdo 3 4),(126,jaO),(153,jdb)] }
theorem jeZ:jbr jaJ:=jbr.of (List.forall_mem_cons.2 ⟨Am.pFmtU_F 2,List.forall_mem_cons.2 ⟨Am.pItoa_F 2,List.forall_mem_cons.2 ⟨Am.pJoin_F,List.forall_mem_cons.2 ⟨Am.pToErr_F 3 4 171,List.forall_mem_cons.2 ⟨Am.pAtoi_F 3 4,List.forall_mem_cons.2 ⟨Am.jed,List.forall_mem_cons.2 ⟨Am.pCount_F,fun _ h=>nomatch h⟩⟩⟩⟩⟩⟩⟩)
def prog:Prog := { fns:=jaJ.fns,prims:=(9,jda jaJ 100000 28 32 30 120) :: jaJ.prims }
theorem primsF:jbr prog:=jbr.cons (pParts_F jeZ) jeZ rfl
def cx:Cx:=⟨[(3,⟨.int .i64,1,8,(some (.i 0)),false⟩),(4,⟨.bool,1,1,(some (.bool false)),false⟩),(5,⟨.int .u8,1,1,(some (.int .u8 0)),false⟩),(9,⟨.str,1,16,(some (.str [])),false⟩),(21,⟨.int .i32,1,4,(some (.int .i32 0)),false⟩),(22,⟨.slice 30,1,24,(some (.nils)),false⟩),(24,⟨.int .i64,1,8,(some (.i 0)),false⟩),(26,⟨.int .u64,1,8,(some (.int .u64 0)),false⟩),(27,⟨.slice 3,1,24,(some (.nils)),false⟩),(28,⟨.slice 46,1,24,(some (.nils)),false⟩),(30,⟨.struct [(0,26),(1,4),(2,27),(3,28)],4,64,(some (.agg [.int .u64 0,.bool false,.nils,.nils])),false⟩),(42,⟨.func,1,8,(some (.nilfn)),false⟩),(44,⟨.slice 5,1,24,(some (.nils)),false⟩),(46,⟨.struct [(0,3),(1,3),(2,3),(3,44)],4,48,(some (.agg [.i 0,.i 0,.i 0,.nils])),false⟩),(47,⟨.ptr 86,1,8,(some (.ptr none)),false⟩),(51,⟨.ptr 95,1,8,(some (.ptr none)),false⟩),(67,⟨.iface,1,16,(some (.nili)),false⟩),(79,⟨.ptr 127,1,8,(some (.ptr none)),false⟩),(82,⟨.struct [(0,4),(1,3),(2,3)],3,24,(some (.agg [.bool false,.i 0,.i 0])),false⟩),(83,⟨.array 96 82,288,2304,(some (.agg ((List.replicate 96 ([.bool false,.i 0,.i 0]:List V)).flatten))),false⟩),(84,⟨.slice 129,1,24,(some (.nils)),false⟩),(86,⟨.struct [(0,83),(288,84),(289,79),(290,26),(291,82)],294,2368,(some (.agg ((List.replicate 96 ([.bool false,.i 0,.i 0]:List V)).flatten++[.nils,.ptr none,.int .u64 0,.bool false,.i 0,.i 0]))),false⟩),(95,⟨.struct [(0,22),(1,27)],2,48,(some (.agg [.nils,.nils])),false⟩),(104,⟨.slice 9,1,24,(some (.nils)),false⟩),(106,⟨.array 8 9,8,128,(some (.agg [.str [],.str [],.str [],.str [],.str [],.str [],.str [],.str []])),false⟩),(124,⟨.array 32 4,32,32,(some (.agg (List.replicate 32 (.bool false:V)))),false⟩),(125,⟨.array 32 3,32,256,(some (.agg (List.replicate 32 (.i 0:V)))),false⟩),(127,⟨.struct [(0,124),(32,125)],64,288,(some (.agg (List.replicate 32 (.bool false:V)++List.replicate 32 (.i 0:V)))),false⟩),(129,⟨.ptr 137,1,8,(some (.ptr none)),false⟩),(132,⟨.ptr 179,1,8,(some (.ptr none)),false⟩),(134,⟨.struct [(0,3),(1,3),(2,132),(3,4),(4,4),(5,26),(6,26)],7,48,(some (.agg [.i 0,.i 0,.ptr none,.bool false,.bool false,.int .u64 0,.int .u64 0])),false⟩),(135,⟨.array 2 134,14,96,(some (.agg [.i 0,.i 0,.ptr none,.bool false,.bool false,.int .u64 0,.int .u64 0,.i 0,.i 0,.ptr none,.bool false,.bool false,.int .u64 0,.int .u64 0])),false⟩),(137,⟨.struct [(0,135),(14,4),(15,3),(16,27)],17,136,(some (.agg [.i 0,.i 0,.ptr none,.bool false,.bool false,.int .u64 0,.int .u64 0,.i 0,.i 0,.ptr none,.bool false,.bool false,.int .u64 0,.int .u64 0,.bool false,.i 0,.nils])),false⟩),(149,⟨.int .u64,1,8,(some (.int .u64 0)),false⟩),(171,⟨.int .i64,1,8,(some (.i 0)),false⟩),(179,⟨.struct [(0,44),(1,3),(2,3),(3,26),(4,26),(5,4)],6,64,(some (.agg [.nils,.i 0,.i 0,.int .u64 0,.int .u64 0,.bool false])),false⟩),(184,⟨.struct [(0,3),(1,3)],2,16,(some (.agg [.i 0,.i 0])),false⟩),(209,⟨.array 256 5,256,256,(some (.agg (List.replicate 256 (.int .u8 0:V)))),false⟩),(211,⟨.struct [(0,5),(1,5)],2,2,(some (.agg [.int .u8 0,.int .u8 0])),false⟩),(212,⟨.array 16 211,32,32,(some (.agg (List.replicate 32 (.int .u8 0:V)))),false⟩)],[0,2,3,4]⟩
def jaf:List V:=[.int .u64 1,.int .u64 10,.int .u64 100,.int .u64 1000,.int .u64 10000,.int .u64 100000,.int .u64 1000000,.int .u64 10000000,.int .u64 100000000,.int .u64 1000000000,.int .u64 10000000000,.int .u64 100000000000,.int .u64 1000000000000,.int .u64 10000000000000,.int .u64 100000000000000,.int .u64 1000000000000000,.int .u64 10000000000000000,.int .u64 100000000000000000,.int .u64 1000000000000000000,.int .u64 10000000000000000000]
def jal:List V:=[.ifc]
def jak:List V:=[.ifc]
def jag:List V:=[.str [],.str [112,117,116],.str [116,97,107,101],.str [115,104,117,116],.str [99,108,111,115,101],.str [114,101,115,101,116],.str [99,111,110,110,101,99,116],.str [114,97,105,115,101]]
end Am.Sigs
