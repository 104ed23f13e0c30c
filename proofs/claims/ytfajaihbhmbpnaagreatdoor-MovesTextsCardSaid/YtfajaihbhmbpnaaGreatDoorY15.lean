/- Our own library, part 15. -/
import Derived.Lib.Bytealg
import Derived.Shelf.Strconv.ToErrorRange
import Derived.Shelf.Strconv.ToError
import Derived.Shelf.Strconv.AtoiAll
import Derived.Lib.AtoiErrMem
import Derived.Test.YtfajaihbhmbpnaaGreatDoorY13
import Derived.Test.YtfajaihbhmbpnaaGreatDoorY14
set_option maxHeartbeats 8000000
set_option maxRecDepth 800
set_option linter.all false
namespace Am
open Go Go.Proofs Go.Shelf Go.RowKit
def cntB (c:UInt8):List UInt8->Nat
 | []=>0
 | x :: r=>(bif x == c then 1 else 0)+cntB c r
theorem jku (c:UInt8) : ∀ s:List UInt8,Lib.countByte s c=cntB c s
 | []=>rfl
 | x :: r=>by
  have ih:=jku c r
  unfold cntB
  rw [<- ih]
  simp only [Lib.countByte,List.count_cons]
  cases h:x == c<;>simp<;>omega
def jeK:Prim
 | [.str s,.int .u8 c],h=>some (.i (cntB c.toNat.toUInt8 s:Int),h)
 | _,_=>none
theorem pCount_F:jft jeK:=by
 intro args h v h' hr
 unfold jeK at hr
 split at hr
 ·cases hr;exact ⟨zn _,fun X h2 x=>⟨h2,rfl,x⟩⟩
 ·cases hr
theorem pCount_ok {P:Program} {C:Cx} {f:FuncId} (x:Ext1 P f Extern.BytealgCount.count):jaV P C f jeK:=by
 intro args h v h' hr m w xs hR hG hx
 unfold jeK at hr
 split at hr
 ·rename_i h0 s c
  cases hr
  obtain ⟨x1,r1,e1,h1,x2,r2,e2,h2,e3⟩:=hx
  obtain rfl:r2=[]:=e3
  subst e2
  obtain rfl:x1 = .string ⟨⟨s⟩⟩:=h1
  obtain rfl:x2 = .int .u8 c:=h2
  obtain ⟨l⟩:=xs
  obtain rfl:l=_:=e1
  refine fun _ _=>⟨m,w,_,Step.refl _ hR,rfl,.inl ?_⟩
  rw [x.run,Lib.run_countString]
  simp only [jku,zS]
 ·cases hr
theorem jhf {P:Program} {C:Cx} {f:FuncId} {p:Prim} (he : ∀ args w,(callFunc f args).run P w = .ok (.enter f args) w)
  (hp : ∀ args h v h',p args h=some (v,h') -> ∀ m w (xs:Array Value),HRel P C m h w->GOk C m->jai m args xs.toList->h'=h/\Calls P f xs w fun e w'=>∃ x,VRel m v x/\e = .returned x/\Below w.heap.size w w') :
  jaV P C f p:=by
 intro args h v h' hr m w xs hR hG hx c cs
 obtain ⟨rfl,hc⟩:=hp args h v h' hr m w xs hR hG hx
 obtain ⟨e,w',fr,⟨x,hv,rfl,hb⟩,hs,_,hl⟩:=hc (c :: cs)
 exact ⟨m,w',x,jdJ hR hb,hv,.inr ⟨he xs w,Steps.trans hs (.one (step_leave_returned hl))⟩⟩
def jaR (g:Nat) (h:H):Bool:=match h.get g with
 | some (.cells (v :: _) _)=>match v with
  | .ifc | .nili=>true
  | _=>false
 | _=>false
theorem jet {P:Program} {C:Cx} {m:Mp} {w:World} {g:Nat} {h:H} (hR:HRel P C m h w) (hG:GOk C m) (hgl:C.gl.any (Nat.beq g)=true) (hr:jaR g h=true) : ∃ ev,w.cell? ⟨g,0,none⟩=some ev/\(ev = .nilIface \/ ∃ te pe,ev = .iface te pe):=by
 unfold jaR at hr
 split at hr
 ·next v l ro hg=>
  obtain ⟨lc,h1,h2,h3⟩:=hG g hgl
  obtain ⟨l2,co,q1,q2,ce,elem,lo,hi',q3,q4,q5,q6,q7⟩:=hR.obj _ _ hg
  rw [h1] at q1;cases q1
  subst q3
  rw [h2] at q2
  obtain ⟨x,q8,q9⟩:=q6 0 v rfl
  refine ⟨x,by rw [jaI q2,<- q8,h3],?_⟩
  split at hr
  ·exact .inr q9
  ·exact .inl q9
  ·cases hr
 ·cases hr
theorem jg8 {g:Nat} {h h2:H} {X:Nat->Option Obj} (x:Ext X h h2) (hr:jaR g h=true):jaR g h2=true:=by
 unfold jaR at hr ⊢
 split at hr
 ·next v l ro hg=>rw [jg6 x hg];exact hr
 ·cases hr
def jdp (gS gR tE:Nat):Prim
 | [.str fn,.str s,.int .i64 base,.int .i64 bits,.iface t (.int .i64 (.ofNat n))],h=>
  bif Nat.beq t tE&&Nat.ble s.length 140737488355328 then
   bif Nat.beq n 2 then (bif jaR gS h then some (.ifc,h) else none)
   else bif Nat.beq n 1 then (bif jaR gR h then some (.ifc,h) else none) else none
  else none
 | _,_=>none
theorem pToErr_F (gS gR tE:Nat):jft (jdp gS gR tE):=by
 intro args h v h' hr
 unfold jdp at hr
 split at hr
 ·next fn s base bits t n=>
  cases hc:(Nat.beq t tE&&Nat.ble s.length 140737488355328) with
  | false=>rw [hc] at hr;cases hr
  | true=>
   rw [hc,cond_true] at hr
   cases h2:Nat.beq n 2 with
   | true=>
    rw [h2,cond_true] at hr
    cases h3:jaR gS h with
    | false=>rw [h3] at hr;cases hr
    | true=>
     rw [h3] at hr;cases hr
     exact ⟨zn _,fun X h2' x=>⟨h2',by simp only [jdp,hc,h2,cond_true,jg8 x h3],x⟩⟩
   | false=>
    rw [h2,cond_false] at hr
    cases h4:Nat.beq n 1 with
    | false=>rw [h4] at hr;cases hr
    | true=>
     rw [h4,cond_true] at hr
     cases h3:jaR gR h with
     | false=>rw [h3] at hr;cases hr
     | true=>
      rw [h3] at hr;cases hr
      exact ⟨zn _,fun X h2' x=>⟨h2',by simp only [jdp,hc,h2,h4,cond_true,cond_false,jg8 x h3],x⟩⟩
 ·cases hr
theorem pToErr_ok {P:Program} {C:Cx} {ρ : Ren} (L:LaysC.n245 P ρ) (hS:C.gl.any (Nat.beq (ρ.g 15))=true) (hR':C.gl.any (Nat.beq (ρ.g 16))=true):jaV P C (ρ.f 245) (jdp (ρ.g 15) (ρ.g 16) (ρ.t 167)):=by
 refine jhf (enters_of L.f245 (by kernel_rfl) rfl) ?_
 intro args h v h' hr m w xs hR hG hx
 unfold jdp at hr
 split at hr
 ·next fn s base bits t n=>
  cases hc:(Nat.beq t (ρ.t 167)&&Nat.ble s.length 140737488355328) with
  | false=>rw [hc] at hr;cases hr
  | true=>
   rw [hc,cond_true] at hr
   simp only [zm,zH] at hc
   obtain ⟨hc1,hc2⟩:=hc
   obtain rfl:=Nat.eq_of_beq_eq_true hc1
   obtain ⟨x1,r1,e1,h1,x2,r2,e2,h2,x3,r3,e3,h3,x4,r4,e4,h4,x5,r5,e5,h5,e6⟩:=hx
   obtain rfl:r5=[]:=e6
   subst e5 e4 e3 e2
   obtain rfl:x1=_:=h1
   obtain rfl:x2=_:=h2
   obtain rfl:x3=_:=h3
   obtain rfl:x4=_:=h4
   obtain ⟨y,rfl,h5⟩:=h5
   obtain rfl:y=_:=h5
   obtain ⟨l⟩:=xs
   obtain rfl:l=_:=e1
   have hlim:(ByteArray.mk ⟨s⟩).size<=281474976710656:=by show s.length<=_;omega
   cases h6:Nat.beq n 2 with
   | true=>
    obtain rfl:=Nat.eq_of_beq_eq_true h6
    rw [h6,cond_true] at hr
    cases h7:jaR (ρ.g 15) h with
    | false=>rw [h7] at hr;cases hr
    | true=>
     rw [h7] at hr;cases hr
     obtain ⟨ev,k1,k2⟩:=jet hR hG hS h7
     refine ⟨rfl,(Any.strconv_toError_syntax L ⟨⟨fn⟩⟩ ⟨⟨s⟩⟩ base bits ev w hlim k1 k2).mono ?_⟩
     rintro e w' ⟨N,rfl,_,_,hb⟩
     exact ⟨_,⟨_,_,rfl⟩,rfl,hb⟩
   | false=>
    rw [h6,cond_false] at hr
    cases h6':Nat.beq n 1 with
    | false=>rw [h6'] at hr;cases hr
    | true=>
    obtain rfl:=Nat.eq_of_beq_eq_true h6'
    rw [h6',cond_true] at hr
    cases h7:jaR (ρ.g 16) h with
    | false=>rw [h7] at hr;cases hr
    | true=>
     rw [h7] at hr;cases hr
     obtain ⟨ev,k1,k2⟩:=jet hR hG hR' h7
     refine ⟨rfl,(Any.strconv_toError_range L ⟨⟨fn⟩⟩ ⟨⟨s⟩⟩ base bits ev w hlim k1 k2).mono ?_⟩
     rintro e w' ⟨N,rfl,_,_,hb⟩
     exact ⟨_,⟨_,_,rfl⟩,rfl,hb⟩
 ·cases hr
def jeL (gS gR:Nat):Prim
 | [.str s],h=>
  bif Nat.ble s.length 140737488355328 then
   match Lib.atoiAll s with
   | .ok v=>some (.tup [.i v,.nili],h)
   | .syntax=>bif jaR gS h then some (.tup [.i 0,.ifc],h) else none
   | .range=>bif jaR gR h then some (.tup [.i (Lib.atoiSat s),.ifc],h) else none
  else none
 | _,_=>none
theorem pAtoi_F (gS gR:Nat):jft (jeL gS gR):=by
 intro args h v h' hr
 unfold jeL at hr
 split at hr
 ·next s=>
  cases hc:Nat.ble s.length 140737488355328 with
  | false=>rw [hc] at hr;cases hr
  | true=>
   rw [hc,cond_true] at hr
   split at hr
   ·next u hu=>
    cases hr
    exact ⟨zn _,fun X h2 x=>⟨h2,by simp only [jeL,hc,cond_true,hu],x⟩⟩
   ·next hu=>
    cases h3:jaR gS h with
    | false=>rw [h3] at hr;cases hr
    | true=>
     rw [h3] at hr;cases hr
     exact ⟨zn _,fun X h2 x=>⟨h2,by simp only [jeL,hc,cond_true,hu,jg8 x h3],x⟩⟩
   ·next hu=>
    cases h3:jaR gR h with
    | false=>rw [h3] at hr;cases hr
    | true=>
     rw [h3] at hr;cases hr
     exact ⟨zn _,fun X h2 x=>⟨h2,by simp only [jeL,hc,cond_true,hu,jg8 x h3],x⟩⟩
 ·cases hr
theorem pAtoi_ok {P:Program} {C:Cx} {ρ : Ren} (L:LaysC.n172 P ρ) (hS:C.gl.any (Nat.beq (ρ.g 15))=true) (hR':C.gl.any (Nat.beq (ρ.g 16))=true):jaV P C (ρ.f 172) (jeL (ρ.g 15) (ρ.g 16)):=by
 refine jhf (enters_of L.f172 (by kernel_rfl) rfl) ?_
 intro args h v h' hr m w xs hR hG hx
 unfold jeL at hr
 split at hr
 ·next s=>
  cases hc:Nat.ble s.length 140737488355328 with
  | false=>rw [hc] at hr;cases hr
  | true=>
   rw [hc,cond_true] at hr
   simp only [zH] at hc
   obtain ⟨x1,r1,e1,h1,e2⟩:=hx
   obtain rfl:r1=[]:=e2
   obtain rfl:x1 = .string ⟨⟨s⟩⟩:=h1
   obtain ⟨l⟩:=xs
   obtain rfl:l=_:=e1
   have hlim:(ByteArray.mk ⟨s⟩).size<=281474976710656:=by show s.length<=_;omega
   have hmax:(ByteArray.mk ⟨s⟩).size<=9223372036854775806:=by show s.length<=_;omega
   split at hr
   ·next u hu=>
    cases hr
    refine ⟨rfl,(Any.strconv_Atoi_ok L ⟨⟨s⟩⟩ hmax u hu w).mono ?_⟩
    rintro e w' ⟨rfl,hw⟩
    refine ⟨_,⟨#[.int .i64 u,.nilIface],rfl,_,_,rfl,rfl,_,_,rfl,rfl,rfl⟩,rfl,?_⟩
    rcases hw with rfl | ⟨t,rfl⟩
    ·exact Below.refl _ _
    ·exact Lib.bytesWorld_below _ _ _
   ·next hu=>
    cases h7:jaR (ρ.g 15) h with
    | false=>rw [h7] at hr;cases hr
    | true=>
     rw [h7] at hr;cases hr
     obtain ⟨ev,k1,k2⟩:=jet hR hG hS h7
     refine ⟨rfl,(Any.strconv_Atoi_syntax L ⟨⟨s⟩⟩ hlim hu ev w k1 k2).mono ?_⟩
     rintro e w' ⟨N,rfl,_,_,hb⟩
     exact ⟨_,⟨_,rfl,_,_,rfl,rfl,_,_,rfl,⟨_,_,rfl⟩,rfl⟩,rfl,hb⟩
   ·next hu=>
    cases h7:jaR (ρ.g 16) h with
    | false=>rw [h7] at hr;cases hr
    | true=>
     rw [h7] at hr;cases hr
     obtain ⟨ev,k1,k2⟩:=jet hR hG hR' h7
     refine ⟨rfl,(Any.strconv_Atoi_range L ⟨⟨s⟩⟩ hlim hu ev w k1 k2).mono ?_⟩
     rintro e w' ⟨N,rfl,_,_,hb⟩
     exact ⟨_,⟨_,rfl,_,_,rfl,rfl,_,_,rfl,⟨_,_,rfl⟩,rfl⟩,rfl,hb⟩
 ·cases hr
end Am
set_option maxRecDepth 100000
namespace Am.Sigs
open Am Go
abbrev uF {α:Sort _} (f g:α) (_:f=g:=by (repeat (apply funext;intro));conv=>{lhs;cbv}):α:=g
section
variable (S a b c:Nat) (vs:List V) (is:List I) (ps:List AC)
def rV (N:Nat):V × Nat:=match N%33 with
 | 32=>(vs.getD (N/33%a) .nilfn,N/33/a)
 | n=>(([.i 0,.i 1,.bool false,.bool true,.nils,.i 2,.i 3,.ptr none,.i 110,.i 111,.i 64,.i 31,.i 32,.i 113,.i 115,.i 116,.i 4,.i 95,.i 112,.int .u64 1,.i 96,.i 5,.i 8,.i 16,.int .u64 0,.int .u32 0,.int .u8 0,.str [],.i 10,.i 100,.int .u32 1,.i 65536]:List V).getD n .nilfn,N/33)
def rO (l N:Nat):Opd × Nat:=match N%3 with
 | 0=>(.t l,N/3)
 | 1=>(.t (N/3%S),N/3/S)
 | _=>match rV a vs (N/3) with | (x,N)=>(.c x,N)
def r1 (l N:Nat) (k:Opd->I):I × Nat:=match rO S a vs l N with | (x,N)=>(k x,N)
def r2 (l N:Nat) (k:Opd->Opd->I):I × Nat:=match rO S a vs l N with | (x,N)=>match rO S a vs l N with | (y,N)=>(k x y,N)
def rL {β:Type} (r:Nat->β × Nat):Nat->Nat->List β × Nat
 | 0,N=>([],N)
 | n+1,N=>match r N with | (x,N)=>match rL r n N with | (l,N)=>(x::l,N)
def rB (l N:Nat):(Nat × Opd) × Nat:=match rO S a vs l (N/32) with | (x,M)=>((N%32,x),M)
def rI (l N:Nat):I × Nat:=match N%20 with
 | 0=>r1 S a vs l (N/20) .mv
 | 1=>r1 S a vs l (N/20/1024) (.faddr (N/20%1024))
 | 2=>r1 S a vs l (N/20) .load1
 | 3=>r1 S a vs l (N/20) .nilck
 | 4=>r1 S a vs l (N/20/16) fun x=>.extract x (N/20%16)
 | 5=>r2 S a vs l (N/20/1024) (.store (N/20%1024))
 | 6=>r2 S a vs l (N/20/32) (.bin (([.add,.sub,.mul,.quo,.rem,.and,.or,.xor,.shl,.shr,.andNot,.eql,.neq,.lss,.leq,.gtr,.geq]:List BinOp).getD (N/20%32) .add))
 | 7=>match rO S a vs l (N/20) with | (x,N)=>r2 S a vs l N (.pick x)
 | 8=>match rL (rO S a vs l) (N/20/1024%16) (N/20/1024/16) with | (x,M)=>(.call (N/20%1024) x,M)
 | 9=>r2 S a vs l (N/20/1024/1024) (.ixaA (N/20%1024) (N/20/1024%1024))
 | 10=>r2 S a vs l (N/20/1024) (.ixaS (N/20%1024))
 | 11=>r1 S a vs l (N/20/1024) (.loadN (N/20%1024))
 | 12=>r1 S a vs l (N/20) .lenL
 | 13=>r1 S a vs l (N/20/4) (.un (([.not,.neg,.xor]:List UnOp).getD (N/20%4) .not))
 | 14=>r2 S a vs l (N/20/1024/1024) (.append (N/20%1024) (N/20/1024%1024))
 | 15=>r1 S a vs l (N/20/32) (.box (N/20%32))
 | 16=>match rL (rV a vs) (N/20/32%32) (N/20/32/32) with | (x,M)=>(.alloc (N/20%32) x,M)
 | 17=>match rL (rV a vs) (N/20/32/32%64) (N/20/32/32/64) with | (x,M)=>match rL (rB S a vs l) (M%32) (M/32) with | (y,M)=>(.bslice (N/20%32) (N/20/32%32) x y,M)
 | _=>(is.getD (N/20%b) .fail,N/20/b)
def r3 (g:Option (Nat × Bool)) (h N:Nat):Option (Nat × Bool) × Nat:=match h with
 | 0=>(none,N)
 | 1=>(g,N)
 | _=>(some (N%S,Nat.beq (N/S%2) 1),N/S/2)
def rC (g:Option (Nat × Bool)) (l N:Nat):(Nat × I × Option (Nat × Bool)) × Nat:=match rI S a b vs is l (N/S) with | (i,M)=>match r3 S g (M%3) (M/3) with | (g,M)=>((N%S,i,g),M)
def rP (j h N:Nat):Nat × Nat:=match h%2 with | 0=>(j,N) | _=>(N%1024,N/1024)
def rQ (l h N:Nat):Option Nat × Nat:=match h with | 0=>(some (l+1),N) | 1=>(some (N%S),N/S) | _=>(none,N)
def r4 (q:Option (Nat × Bool)) (l h N:Nat):Option Nat × List (Nat × I × Option (Nat × Bool)) × Nat:=match h with
 | 0=>(none,[],N)
 | _=>match rL (rC S a b vs is q l) (N/8%32) (N/8/32) with | (c,M)=>(match N%8 with | 0=>none | a+1=>some a,c,M)
def rM (j l h N:Nat) (q:Option (Nat × Bool)):(Ins × Nat) × Nat:=match rP j h N with
 | (j,N)=>match rQ S l (h/2%3) N with
 | (d,N)=>match r3 S q (h/6%3) N with
 | (g,N)=>match r4 S a b vs is (g.or q) l (h/18) N with
 | (x,y,N)=>match rI S a b vs is l N with | (i,N)=>((⟨j,d,i,g,x,y⟩,d.getD l),N)
def sJ (r:Nat->Nat->Option (Nat × Bool)->Nat->(List Ins × Nat) × Nat) (j l:Nat) (q:Option (Nat × Bool)) (N:Nat):(List Ins × Nat) × Nat:=match rM S a b vs is j l (N%36) (N/36) q with
 | ((x,l),N)=>match r (x.ix+1) l (x.guard.or q) N with | ((r,l),N)=>((x::r,l),N)
def rJ:Nat->Nat->Nat->Option (Nat × Bool)->Nat->(List Ins × Nat) × Nat
 | 0,_,l,_,N=>(([],l),N)
 | n+1,j,l,q,N=>sJ S a b vs is (rJ n) j l q N
def sD (r:Nat->Nat->List Nat × Nat) (p N:Nat):List Nat × Nat:=match N%2 with
 | 0=>match r (p+N/2%8) (N/2/8) with | (r,M)=>((p+N/2%8)::r,M)
 | _=>match r (p+N/2%S) (N/2/S) with | (r,M)=>((p+N/2%S)::r,M)
def rD:Nat->Nat->Nat->List Nat × Nat
 | 0,_,N=>([],N)
 | n+1,p,N=>sD S (rD n) p N
def rK (p:List Nat) (N:Nat):List Nat × Nat:=match N%4 with
 | 0=>(p,N/4)
 | 1=>rD S (N/4%64) 0 (N/4/64)
 | 2=>rL (fun N=>(N%S,N/S)) (N/4%64) (N/4/64)
 | _=>(p++[N/4%S],N/4/S)
def sA (r:Nat->List Nat->Nat->AC × Nat × List Nat × Nat) (N:Nat) (p:List Nat) (l:Nat):AC × Nat × List Nat × Nat:=match N%12 with
 | 0=>match r (N/12) p l with | (x,N,p,l)=>match r N p l with | (y,N,p,l)=>(.seq x y,N,p,l)
 | 1=>match rJ S a b vs is (N/12%128) 0 l none (N/12/128) with | ((q,l),N)=>match rK S p N with | (p,N)=>(.region 0 q p,N,p,l)
 | 2=>match rJ S a b vs is (N/12/8%128) 0 l none (N/12/8/128) with | ((q,l),M)=>match rK S p M with | (p,M)=>(.region (N/12%8) q p,M,p,l)
 | 3=>match rO S a vs l (N/12) with | (x,N)=>match r N p l with | (y,N,p,l)=>match r N p l with | (z,N,p,l)=>(.cond x y z,N,p,l)
 | 4=>match r (N/12/128) p l with | (x,M,p,l)=>(.block (N/12%128) x,M,p,l)
 | 5=>match rK S p (N/12) with | (k,N)=>match r N k l with | (x,N,q,l)=>(.loop k x,N,q,l)
 | 6=>(.skip,N/12,p,l)
 | 7=>(.ret,N/12,p,l)
 | 8=>(.exit (N/12%128),N/12/128,p,l)
 | 9=>match rO S a vs l (N/12) with | (x,N)=>match rK S [] N with | (y,N)=>match rK S p N with | (k,N)=>match r N k l with | (z,N,p,l)=>match r N p l with | (w,N,p,l)=>(.rangeFunc x y k z w,N,p,l)
 | 10=>match r (N/12) p l with | (x,N,p,l)=>(.scope x,N,p,l)
 | _=>(ps.getD (N/12%c) .skip,N/12/c,p,l)
def rA:Nat->Nat->List Nat->Nat->AC × Nat × List Nat × Nat
 | 0,N,p,l=>(.skip,N,p,l)
 | f+1,N,p,l=>sA S a b c vs is ps (rA f) N p l
end
def jA (S N a b c:Nat) (vs:List V) (is:List I) (ps:List AC):AC:=(rA S a b c vs is ps 40 N [] 0).1
abbrev yA (S N:Nat)  {g:AC} (_:(jA S N 0 0 0 [] [] [])=g:=by (repeat (apply funext;intro));conv=>{lhs;cbv}):AC:=g 
abbrev yB (S N:Nat) (a:AC) {g:AC->AC} (_:(fun a=>jA S N 0 0 1 [] [] [a])=g:=by (repeat (apply funext;intro));conv=>{lhs;cbv}):AC:=g a
abbrev yC (S N:Nat) (a b:AC) {g:AC->AC->AC} (_:(fun a b=>jA S N 0 0 2 [] [] [a,b])=g:=by (repeat (apply funext;intro));conv=>{lhs;cbv}):AC:=g a b
abbrev yD (S N:Nat) (a b c:AC) {g:AC->AC->AC->AC} (_:(fun a b c=>jA S N 0 0 3 [] [] [a,b,c])=g:=by (repeat (apply funext;intro));conv=>{lhs;cbv}):AC:=g a b c
abbrev yE (S N:Nat) (a:I) {g:I->AC} (_:(fun a=>jA S N 0 1 0 [] [a] [])=g:=by (repeat (apply funext;intro));conv=>{lhs;cbv}):AC:=g a
abbrev yF (S N:Nat) (a:I)(b:AC) {g:I->AC->AC} (_:(fun a b=>jA S N 0 1 1 [] [a] [b])=g:=by (repeat (apply funext;intro));conv=>{lhs;cbv}):AC:=g a b
abbrev yG (S N:Nat) (a:V) {g:V->AC} (_:(fun a=>jA S N 1 0 0 [a] [] [])=g:=by (repeat (apply funext;intro));conv=>{lhs;cbv}):AC:=g a
abbrev yH (S N:Nat) (a:V)(b:AC) {g:V->AC->AC} (_:(fun a b=>jA S N 1 0 1 [a] [] [b])=g:=by (repeat (apply funext;intro));conv=>{lhs;cbv}):AC:=g a b
abbrev yI (S N:Nat) (a:V)(b:I) {g:V->I->AC} (_:(fun a b=>jA S N 1 1 0 [a] [b] [])=g:=by (repeat (apply funext;intro));conv=>{lhs;cbv}):AC:=g a b
abbrev yJ (S N:Nat) (a:V)(b:I)(c:AC) {g:V->I->AC->AC} (_:(fun a b c=>jA S N 1 1 1 [a] [b] [c])=g:=by (repeat (apply funext;intro));conv=>{lhs;cbv}):AC:=g a b c
abbrev yK (S N:Nat) (a b:V) {g:V->V->AC} (_:(fun a b=>jA S N 2 0 0 [a,b] [] [])=g:=by (repeat (apply funext;intro));conv=>{lhs;cbv}):AC:=g a b
abbrev yL (S N:Nat) (a b:V)(c:AC) {g:V->V->AC->AC} (_:(fun a b c=>jA S N 2 0 1 [a,b] [] [c])=g:=by (repeat (apply funext;intro));conv=>{lhs;cbv}):AC:=g a b c
abbrev yM (S N:Nat) (a b:I) {g:I->I->AC} (_:(fun a b=>jA S N 0 2 0 [] [a,b] [])=g:=by (repeat (apply funext;intro));conv=>{lhs;cbv}):AC:=g a b
abbrev yN (S N:Nat) (a:I)(b c:AC) {g:I->AC->AC->AC} (_:(fun a b c=>jA S N 0 1 2 [] [a] [b,c])=g:=by (repeat (apply funext;intro));conv=>{lhs;cbv}):AC:=g a b c
def c3_0 :=yA 110 0x15d0f953fda1bd855c18e3d16225160bfec90581ee50c9fa23d5607be5967c067baaca03393515f7a65bc1364723b43095b95d5e6f28761a39762ef1db01d3c81de18d3d35c02a3675fcf2309791c49365324311e51a9ffbf48ba6b3bed23bc
def c3_1 :=yB 76 0x217b338e3c7f5eaf3208c7e7c34715d5b6347c4cec071f57cba7ea71cc447751c c3_0
def c3_2 :=yB 70 0x18c6d28d36616760adad451b43b37c417ecdcaba721b9c5d0ff09adeeeb51c c3_1
def c3_3 :=yB 64 0x917593d45fdecf9fe4e0fe696ee8ebf5052ecf25a6013fc c3_2
def c3_4 :=yI 53 0x42bc5d00b95637641984777706e4694e358758af99fe7a2d11458df617c8a79755ee69ecad27e585a66936cc (.i 120) (.eq .bool true (.t 42) (.t 43))
def c3_5 :=yB 41 0xb2f0d061018e2f224d354ff8a0b960789709462d136c c3_4
def c3_6 :=yB 36 0x5d70fd91b07da97b51dbaced2efbf589282f4b3a736c c3_5
def c3_7 :=yB 54 0x165a8ad9fa7e9653aef7951e7b151cf309128251697110398e48064 c3_6
def c3_8 :=yB 59 0x52a755a060a35104c5276a58b14752d1402eeda44573fc c3_3
def c3_9 :=yC 30 0xde9fdd770c301a0f31611acf6900527809dd4d0 c3_7 c3_8
def c3_10 :=yJ 26 0x6270e556f051afd697146ca95c0afe0560ba1f4f8f0b1d8a49df64f41091f690 (.i 10000) (.lenS (.t 22)) c3_9
def c3:AFn:=⟨2,110,[.tmp 4],yB 5 4789558881718428 c3_10⟩
def c6_3 :=yK 83 0x3de4d347b449c707f0382f961fc23da28a573f63df027ec4ccca94f7cfdecba9c67f81602168899864b0f9c6a84131ccd121905984b4fa4976d5f3064f6942ea6f9aec69f5bdb84d3daa18ab21fde99608071510bf30cd3d4474848c279095ddb325e7546fe47689bdcb882e0546492153ea41b508e215c13ee58f104e49ea9e53d8b3fc (.i 1100) (.i 20)
def c6_6 :=yL 84 0x18642638432ec96aa1cc3bf25e5c5cefdf1f3dc3555f45f15b5975309ff815cb2bca00c00703cf8d757b3185193948990b4c25922a5b7f6b65f517f5aa6ec3cc33eaf48956e53275ffb1ec0f88bb5bbefb60538f1f7d52cba7a225ae887d3886d6091e53718072decfae67d9c2fdc21c14741fe2418af972e1a9d8e926b88f74 (.i 60) (.i 500) c6_3
def c6_8 :=yB 13 0x1dfb4bcf80335f4ed27eed78ae0d56b86cc6eac280563f929be4ec7a324b3e6ea589e10b13b102a74ee54ebe6863fd4d0 c6_6
def c6:AFn:=⟨1,84,[.tmp 2],yB 3 532183339164 c6_8⟩
def c7_0 :=(uF (fun a b c=>jA 25 0x39ec5a9912293f2069c9969a6b18964cfc43d9d59a53e609f50f0c365b84e2be40c03a6a4e7b09db9b807f311b35a5bbf6e7c0a092922a2ceef82f0bc466307874f5b4ce50 3 0 0 [a,b,c] [] []) _) (.i 50) (.clo 27 []) (.i 120)
def c7:AFn:=⟨1,25,[.tmp 2],yH 4 0x12f2ae5f7ff2455d8c1e12c (.clo 24 []) c7_0⟩
def c8_1 :=yA 52 0x1ade7520d17ef635a0861ce78db8bed25b8d7096d84aa6d560c1c818789e332e299d27454a10830d567780c7691e3fef720121340709c0bd78a9c3007a630333efcf7621ece6250
def c8_3 :=yG 37 0x25564009166cab3202a493b51e243c8d7cde3079ab02dbf60ce3ea06d4df5d14d6da0ab89b77827831e18ea173d35e78de2e4fd4aa37bb3c6161893bd814b86789331770baf1eed70828d42e2e250 (.i 999)
def c8_4 :=(uF (fun a b c=>jA 16 0x8373c086bba08d236841a9d3323a2f0e9fe5c3e9a2a0695be68b74e13e7309e526247dcdcb28aa316859364e140e7a47fd2cebcf79abfd2180410 1 0 2 [a] [] [b,c]) _) (.i 50) c8_3 c8_1
def c8:AFn:=⟨1,52,[.tmp 2],yB 3 0x2cdf1f6ec1e12c c8_4⟩
def c10_0 :=yG 25 0x3ee694a1830662ab26296224b6561bb8b17a89af6a9de2d44e646d (.str [10])
def c10_1 :=yB 17 0x1244b9058cecfa15218ea1112b37998e93be8560ccf87812ba1c595b90 c10_0
def c10_2 :=yB 26 0x1a15d2a59d484daa65188692e9bac0bc0d395bc3ca1fe1309c c10_1
def c10_3 :=yH 11 0xece147c577d4582be58dfcf54949c1af60d30016700e86a93a42771bc (.i 120) c10_2
def c10:AFn:=⟨1,26,[.tmp 2,.tmp 3],yB 4 0xee3f9b86d2d12c c10_3⟩
def c11_1 :=(uF (fun a b c=>jA 35 0x5903f20b260a0ae5ce092cb680fe0b7b9f72c0427f436bfe0aeb89137629896128713e74f3c6948e7eaa3bc4c7cf438ab211681005dffca4c276f50e0b1494ff7e7a95c96fd3d5094034f8ad0 3 0 0 [a,b,c] [] []) _) (.i 2000) (.str [10]) (.i 121)
def c11_2 :=yH 19 0x45f56fa3c69e32a4f79727cb13b845a3362d53632c15ae34dce3f9f87e00b06551c (.str [10]) c11_1
def c11_4 :=yB 36 0xb1d49f53502fd10788b38e6d14b0873313887a432bb1afe07e02be63fef167509dba59f5832b892ce7ce0429d44559d5862d2ce10 c11_2
def c11:AFn:=⟨1,36,[.cell1 2,.cell1 3,.cell1 4],yB 5 0x2fc05427f59d09a1e1058eedc351bc c11_4⟩
def c12_1 :=yK 44 0xc6459a739de29a2086f01b14ad2ac864a5649c2210d05cf59874880ce93e63b968cc5fe6968b1f57a5e3a1cd0143d6cdcbaa313d8f6c27411a3684c496baf27431e98f45dc4e956910 (.i 2000) (.i 121)
def c12_2 :=yF 31 0x197ec7331d8e21ab47e5c98e424579c505c563b53f38b997abfb341db5a9686263963c (.sliceS (.t 24) (some (.t 25)) (some (.t 26))) c12_1
def c12_3 :=yJ 23 0x2f87a33896c138c4409c0ca1169bc50d07c9025db97d14c9992ed785b90 (.int .u8 10) (.ixStr (.t 17) (.t 18)) c12_2
def c12_4 :=yF 17 0x254b0c02d23019d5ade0d3cfe381bf0528bc9fe4d74e9a1aa8b49470d5b90 (.lenS (.t 12)) c12_3
def c12_5 :=yI 51 0xae45a6a593407b40f0ecf2d77e1250d245befe44f7a91fcee0808feee49446793df802e1c6b6483cc4db90 (.i 121) (.lenS (.t 45))
def c12_6 :=yC 9 0x1aa7eaf99f0e8b417b409f57f5d589e7749749a5b05b09c c12_4 c12_5
def c12:AFn:=⟨1,51,[.tmp 2,.tmp 3,.tmp 4],yB 5 0x193864c939266e3d1bc c12_6⟩
def c13_2 :=yA 28 0x9f2301365b2651d67e4eae8a1fd03bc0913cd9fb5738bd95987bc4e71b8dd0fffce83a942fc1f775b3bc51503280061ed773897f1136d877bc68e2a820c7b0418c6c3d9c30f6a7543c8cb9f49a6dc653b8595654df13cad0b8b43f9c330ec27b5b8c000b45a36380f2ccaca68eaac15bcca75fe250
def c13:AFn:=⟨2,28,[.tmp 4],yB 5 4789558881718428 c13_2⟩
def c24_0 :=yG 9 0x10c9597ec92a6e48afd099e050862de8caf3fc (.i 999)
def c24:AFn:=⟨1,9,[.tmp 2],yB 3 532422217884 c24_0⟩
def c25_0 :=yA 9 0x38583d281518ef9e1e7604b738b763685e147044909c
def c25:AFn:=⟨2,9,[.tmp 4],(c25_0)⟩
def c26_0 :=yA 9 0x38583d281518ef9e1ea712b709693c285e147044909c
def c26:AFn:=⟨2,9,[.tmp 4],(c26_0)⟩
def c27_0 :=yA 6 0xafdb17ccbc8d5e56ff57dbf9dfa746daac1e12c
def c27:AFn:=⟨1,6,[.tmp 2],(c27_0)⟩
def c28_3 :=yM 32 0x157c9c723b0ebf13f6891fde93e677957357883f7df072092203184fedbb702a9b8d3f047627110945e002da80b76e07b52bae6a48e6dd212deb1e5a22c1ebf9110d7375cd6f6e47f6824d9990dcd2a9948bc6d90fcda7ba5cafecc5f97fc120fe250 (.callv (.t 16) [(.c (.str [119]))]) (.callv (.t 24) [(.c (.str [110]))])
def c28_4 :=(uF (fun a b c=>jA 45 0x4c55fec69f2082ac936114949b62baca198fdfc7d93c5e31fa617d9109916d3b8def3db63503dbe3b817ec 1 2 0 [a] [b,c] []) _) (.i 1000) (.callv (.t 32) [(.c (.str [100]))]) (.eq .bool false (.t 33) (.t 37))
def c28:AFn:=⟨1,45,[.tmp 2],yN 5 0x3406d368e5e5807ec2a8817ac1e12c (.mkClo 57 [(.t 1)]) c28_3 c28_4⟩
def c29_1 :=yE 59 0x1d5dc2b9de4265b2aaa2b053ccb86d4a4503ba8ab7dee36dc995914047a899180fd9e44d6e43aa4085f429aa58ebeeb2ad77609dc18e45d70a2424e2fb61ffdb73a73d43b88581f4e2dbc08a330ffe4d547dc1e292fefc99fb30cab7b924c (.eq .bool false (.t 52) (.t 56))
def c29_2 :=yL 29 0xb3e6e9c32645e1b64fad22955b1554beca6c58b6208a17739031f571cd4569638f52c6e39dfa4ce0cf793924eab6b663f4d88a5a0d601f577d0da18376b109c0577f4e9b3b02a6290 (.i 7) (.i 1000) c29_1
def c29:AFn:=⟨1,59,[.tmp 2],yB 3 0x2cdf1f6ec1e12c c29_2⟩
def c30_0 :=yK 11 0x1ee2d2ded29a8dcfa0065fa553cc3b14c88db6c5616f51c (.i 2000) (.clo 63 [])
def c30:AFn:=⟨1,11,[.tmp 2],yB 3 532422217884 c30_0⟩
def c32_4 :=(uF (fun a b c=>jA 86 0x89c727fc359660e7117f3fdcd4b4fdc26a54a47c81ef5b6fd8263ed093613aa0ecce7cb27d57cf584cc5628b7534d97e73bd6a3f2c227c2383c9f76b478b1056b088c570ecb65060d5dd83b613ce4c1e36ad8e3150e03da3108e3ddee9f6fdea8345d3d54cb4757375db1cc9ac7e71ffc551b0b60c27497cba735c30e2a82a658a36955c4211bc257f0512c 2 1 0 [a,b] [c] []) _) (.int .i32 119) (.int .i32 110) (.next true (.t 59))
def c32_5 :=yJ 60 0x1abb2db8633221b2dec4ed0adb32cc84b63a8709b5c3879a9ec0ad37eb4a5e9178aae18a5d9c99c6f5a869376cb48c (.p 0 0) (.range true (.t 58)) c32_4
def c32_6 :=yB 87 0x3bae0af2c73f94ffed765a8447dacbb256973d3ba0a347f0e6e4c6b537ec6a8bf262561e0 c32_5
def c32_8 :=yA 37 0x36a87b70db1fb329b9c776abfc77abfab38561a639fa21b3eb79b60fa4fb2c6ad19596c2ee2ed2de6249c1fecba3fce0c0
def c32_9 :=yK 42 0x3f5751596f2bb0f81458e625b1f0ccb30ab97aad46e63bd76c449 (.str [44]) (.str [111,114,100,101,114])
def c32_10 :=yC 29 0x1601cf0f51dabb6dab6400bc50c4e79fff811aa3699ea1dfba5b90 c32_8 c32_9
def c32_11 :=yH 89 0x27b8217ed0bbdb4ed0ea8cd8a43d516b0e5cccd34290e003a9e85b48d9123ccba4e154449d5b90 (.str [32]) c32_6
def c32_12 :=yC 24 0x95038e69f520b135a1c3cdd65d40531fbc1150edc88db90 c32_10 c32_11
def c32_13 :=yH 20 0x3386740ae5b62e1aa7657ba9fa3e13b9bbf07df0765b5854f0a4e7b4e10 (.str [105,110,116,114]) c32_12
def c32_14 :=yH 15 0x8aa01e66bb3d4a41b1ae0b2efa345727d23394907d2dc (.str [115,116,101,112]) c32_13
def c32:AFn:=⟨1,89,[.tmp 2],yB 3 0x2d1db17fc1e12c c32_14⟩
def c34_2 :=yG 21 0x26b68f33e56e4cccd68abb59a18b88c34bd55fcf32f2aac2c25a085a3af690c8d25357c54f3f7ccbac0e683c81451bf99f688076ca9e72900d66baa9746b2f46507235f36d7751894fd07501f93bca3e34c2aa424d4cd20cc278cc654d0 (.i 2000)
def c34:AFn:=⟨1,21,[.tmp 2],yB 3 532422217884 c34_2⟩
def c35_3 :=(uF (fun a b c d=>jA 121 0xd08ca54e38e259046318dc5fedf91c5b7c1ce00b38ea3cebcfa57d47581be327ba6717672b5276f3e5bd70c2d380f1fa1fd7af3441f17b2782f099b78542a94ccde9423b9b4b7d9f35e17ffdce6d9ab18f406f1bd8f70f849329c12083e06ff119c65cee589dc19ab9a1ba651c1f32578da15f8ac0c61b6927baf381ff291383b1fd1ab20f180e43c6ee20e7e0556254c27cb2031c421bc4510e16250 1 3 0 [a] [b,c,d] []) _) (.int .u8 16) (.convInt .i64 (.t 113)) (.convInt .i64 (.t 115)) (.sliceS (.c (.str [48,49,50,51,52,53,54,55,56,57,97,98,99,100,101,102])) (some (.t 114)) (some (.t 117)))
def c35_4 :=yI 82 0x1bcbeb136d639cbe882d964b41ded31e0522ceeab2ee8d461 (.str [32]) (.convInt .u64 (.t 78))
def c35_5 :=yH 87 0x734a5cd8fc39532f999797c112472175b08bb2a797266d89faedd9bba06a4b3e83c54d0 (.str [32]) c35_3
def c35_6 :=yI 71 0xd8701ebd850ed22f870e0265c658f370d21847190b0a4c61 (.str [32]) (.convInt .u64 (.t 67))
def c35_7 :=yC 75 0x28c7ac2ad7f3690c354348cfd8b967c57b31598bcd34c2bfc6d24c c35_4 c35_5
def c35_8 :=yC 64 0x1273ade51511146071fb23124acacbeb78bda1a830860784e8124c c35_6 c35_7
def c35_9 :=yH 60 0x7a4d1d51a83cfc501a384cb6c7f2d21ab2af9eb3ddff53fc (.str [32]) c35_8
def c35_10 :=yB 54 0x2c8d1083dd843a6e99a25a0c1270a7efe4c9c2e71c3b67273b43873fc c35_9
def c35_11 :=yB 49 0x1938b1adee9e5fadfbe4ea9b63af0222bb9eeb3910069e71737f2dcda4a75de250 c35_10
def c35_16 :=(uF (fun a b c d=>jA 122 0x1543acbc3ca583b193c89ab00b9f1d583edad4b50176214358d179a2265385d4f5c4788b4fc80003bf612b612c1ed411c14a57f59c71d27a77a15e5c4ef99f4da0ea6512f61e8900598616deca71dc1bc54a2a4f60e5b13543d55890c0e803eac921d69defc2ea5be78a7c590dc62653c58c750 2 1 1 [a,b] [c] [d]) _) (.str [32,111,114,100,101,114,32]) (.str [44]) (.convInt .u64 (.t 38)) c35_11
def c35_17 :=yH 20 0x12f301ef58277dbaf29f58b6eccd84b54f0a4ef4ce10 (.str [32,105,110,116,114]) c35_16
def c35_18 :=yH 16 0x83b46ecda2902dbf7553eb67b482f429b77849bc1e12c (.str [115,116,101,112,32]) c35_17
def c35:AFn:=⟨1,122,[.tmp 2],(c35_18)⟩
def c36:AFn:=⟨1,4,[.tmp 2],yI 4 0x3e74bc8c76a4aa590df662612c (.nilfn) (.mkClo 71 [(.t 1)])⟩
def c37_1 :=yA 99 0x743e9cf2f65c1bad06de034d305646ed35c62f8b6a4e57854a92ad6b0848961aa6872eeb77d9fe77891ed853506234bdca04213af67ce10
def c37_2 :=yA 109 0x1136f0ed0207448153e901a9bb3e87d6e2ba08e0307846a658f499faae6ce4edc917709f029967e08b69756210ca4d8fcfffbce76d25b38a026238d6cc
def c37_5 :=yA 83 0x1de14b72553fe7cec15c1da9131afa6ed65f700316b43ea24fca14a5fcff434caac173fd9914dc8fdcc4a80be55454e8a06ac6e9ba4a21163097ef34295e267e5aa43c79c5800912d7866b2fcf2e78cc6f6890d8d3fc
def c37_6 :=yB 84 0x360d464fc7529491c47043b0f1fb81e2ebf64748463f8380dba8470bfce0c0 c37_5
def c37_7 :=yJ 86 0x6d0dd578c90b74575a73eb50a2ce1dcce8b7b3c16dd338266525c12794cd5f860a772a9bbe3cf0c1b584e910 (.str [44]) (.slice 1 (.t 84) (some (.c (.i 2))) none none) c37_6
def c37_8 :=yC 90 0x2c3a36d1b46d52e5e731eba740790fef1423986a265904ee29a098770500d7f68428d97045bf2a9db3ce10 c37_1 c37_2
def c37_9 :=yE 51 0x1c891c658e7fa67a3c1681954085717953ad4c27 (.slice 1 (.t 48) (some (.c (.i 1))) none none)
def c37_10 :=(uF (fun a b c=>jA 60 0x1d959c220cd3e94b0f0c33eb2aed4fd950c4190002134945151e92d2237d50 1 0 2 [a] [] [b,c]) _) (.str [111,114,100,101,114]) c37_7 c37_8
def c37_11 :=(uF (fun a b c=>jA 48 0x4966625eb31862084dd3c19760871750d5ca5c2da77f1c57eb715a97d50 1 0 2 [a] [] [b,c]) _) (.str [105,110,116,114]) c37_9 c37_10
def c37_12 :=yF 39 0x16f29ee5721f10c247921426f8e015cbe22ea6d14934875ceace10 (.eq .iface true (.t 36) (.c (.nili))) c37_11
def c37_13 :=yF 36 0x13e12f1610441a635a4fcc1eb2648e022bff464936c (.slice 1 (.t 33) (some (.c (.i 2))) none none) c37_12
def c37_14 :=yB 32 0x256e40b906bd926171307d0e090072c74bc4f694fa37dcfd3828cda17d51c c37_13
def c37_15 :=yH 25 0x7195d9ecb42b65bf8dc44193527a9793472dc17d9e6e80781c298ac74c557873995b1399a7f00250d2fb7d50 (.str [115,116,101,112]) c37_14
def c37_16 :=yH 15 0xadaa72e041dcdc55cbadaf91e24f1c317b162c49b3c8d12c (.str [32]) c37_15
def c37:AFn:=⟨1,109,[.cellN 2 4,.cell1 3],(c37_16)⟩
def c38:AFn:=⟨2,8,[.tmp 4],yA 8 0x4ca912ac4b5bada95be74748b5433793c1109c⟩
def c39:AFn:=⟨2,8,[.tmp 4],yA 8 0x4ca912ac4b5bd01d3e4694c8b54335b925109c⟩
def c40_0 :=yA 131 0x129d9df8c81593c5112dd588f7cb0a1433c0aaf3aa29605ebff533afc626e40eb30aa15e4186c8b2ef3d12589c5a15ac
def c40_2 :=yA 121 0x25cc910670bc925b1278880989d1196bf2df7f0e8d7b236f06420ec8ef09ae59bd6df6b2ffd3d04040b651507ff04e05a0d09c6879b4b0773d67e99b69280e5d9d59c5d58090e67be98b2eee4e10
def c40_3 :=yF 109 0x3cb96ae4cffd1c2c9ba5a14f168beb2485dbea5bcf2078f49406e29b7b171be1d759f5ac (.slice 1 (.t 103) (some (.t 104)) none none) c40_2
def c40_4 :=yB 102 0x1f99a2a7bc60449f1d59424a66a7cac64ac19b30101 c40_3
def c40_5 :=yA 96 0x233ffe963efcc8219b9e351874640f869de4abd48b40c2c0accbac7120852a131281c80207bb8ebc9f2793fc
def c40_6 :=yF 88 0x265a7c789d797a98b30f609cbee8839e52ab12acc1bb057d5f642e4e0c75ac (.sliceS (.t 83) (some (.t 84)) (some (.t 85))) c40_5
def c40_7 :=(uF (fun a b c d=>jA 79 0x1aa5dcc6bfac42f07b6421f21c4855fd34b52c7ae617e1f542b3b6c39d955fd8f0db89874a9d932120ea80f7b8a03fa84f1e3ba2c 1 2 1 [a] [b,c] [d]) _) (.int .u8 44) (.lenS (.t 66)) (.ixStr (.t 74) (.t 75)) c40_6
def c40_8 :=yF 61 0x608955d1fe1961be3cb3df9472c6c5ada4e4d0e94702b1d448c83a96ced437afd5ce6f3600b1a20d97717690 (.lenS (.t 56)) c40_7
def c40_9 :=yB 98 0xb9fee6a47d95e2446dc83d13dff75be26f028a68f14b317725d028709c c40_8
def c40_10 :=yA 39 0x5fa7138c7cd1b92f463b594a3e83a630a9564038a8b24b
def c40_11 :=(uF (fun a b c d=>jA 123 0x54a37941c85137678076c5517025ca08b2661a3a912f9d400f4a4281de825fe3fcdc2580e411b348ad4d360102b13e6c1dcd32b1a4f3379190 1 0 3 [a] [] [b,c,d]) _) (.str [111,114,100,101,114]) c40_9 c40_4 c40_0
def c40_12 :=(uF (fun a b c=>jA 36 0x15e24d471221ccac1779beabaff6814566fbf187af68e41f11562214491fd28c8ad0 1 0 2 [a] [] [b,c]) _) (.str [105,110,116,114]) c40_10 c40_11
def c40_13 :=yB 25 0x1688c226f1882bea3db857a163a85ec8e4f779bdad35f32eb083936c c40_12
def c40_14 :=yB 20 0xae5253ce6bcfd9d8a4c03e4dfa499dc650b79973046c5a6c996d4d0 c40_13
def c40_15 :=yF 16 0x1de1135846885d7e1a18d76d68cdbb0a0134375c84e60431bc (.build [.int .u64 0,.bool false,.nils,.nils] []) c40_14
def c40:AFn:=⟨1,131,[.cellN 2 4,.tmp 3],yB 4 0xaf2606c1df8a7c77444d12c c40_15⟩
def c55_2 :=yI 19 0x27b8fe86d823a21c1f7a5077346ad1d41bcff76c69c11e50c698f50cef1ace0ed621dab6bb6be5b0641e11f7debb919809b5a603316cbc4cd71eba7c4f5b65c59d36f2b65bbbfcd6707793d52909c (.i (-1)) (.callv (.t 11) [(.t 15)])
def c55:AFn:=⟨2,19,[.tmp 4],(c55_2)⟩
def c56_2 :=yI 19 0x9ee3fa1b608e88707de941dcd1ab47506f3fddb1a70479431a63d42c56c8398b777844a3a12565ee542e0d4630ee55029ae175583b316cbc4cd71eba7c4f5b65c59d36f2b65bbbfcd6707793d52909c (.i (-1)) (.callv (.t 11) [(.t 15)])
def c56:AFn:=⟨2,19,[.tmp 4],(c56_2)⟩
def c57_0 :=yA 9 0x25c6d299897ab07ce42b1853943c0b88d63d78808c703a709c
def c57:AFn:=⟨2,9,[.tmp 3],(c57_0)⟩
def c58_0 :=yA 9 0x38583d281518ef9e265142afa5331a285e147044909c
def c58:AFn:=⟨2,9,[.tmp 4],(c58_0)⟩
def c59_3 :=(uF (fun a b c d e f=>jA 15 0x10cfe5ce4de74b0056b67386b8492d57a82c8a98fe86f9ed712ae73068e026c391510ce1794dbde1e450f0ab01050b0a3ba7b68abece95ac5c6318d7ae07f8cfabe3f41f6e39589297b28da3ed6886cb785188b219ef7419b6d775757fd2b58e15c25e8bc4d4750 6 0 0 [a,b,c,d,e,f] [] []) _) (.str [119,100]) (.i 6) (.str [119,110]) (.str [119]) (.i 7) (.str [110])
def c59:AFn:=⟨1,15,[.tmp 2],yB 3 535408201884 c59_3⟩
def c60_0 :=yG 9 0x10c95981326618acf976fc03927ee6dfd2f3fc (.i 6)
def c60:AFn:=⟨1,9,[.tmp 2],yB 3 532422217884 c60_0⟩
def c61_0 :=yK 13 0x2cd065dbf1f0295b5cf798b6b326c906836acb8bd2de47c946258af63c (.i 6) (.i 7)
def c61:AFn:=⟨1,13,[.tmp 2],yB 3 532422217884 c61_0⟩
def c62_0 :=yA 9 0x38583d281518ef9e268250af75e4f2e85e147044909c
def c62:AFn:=⟨2,9,[.tmp 4],(c62_0)⟩
def c63_0 :=yA 6 0x2200dd1a0a0fde9ef051a44e4ebffa746daac1e12c
def c63:AFn:=⟨1,6,[.tmp 2],(c63_0)⟩
def c68_2 :=(uF (fun a b c d e=>jA 24 0xd33ff95e2a70fb0a47b03916ee890f2e698cb3e36f3fed8022696a41d19a9bcd3ff3dbd7bb5698f08308a23d5858975d2508d3baaa4a6b7b1298c7c1ebbabaf80d7e705f64239de7d68cb485f6c826a603338c5fdfd4d0 2 3 0 [a,b] [c,d,e] []) _) (.int .u64 4) (.int .u8 15) (.ixStr (.c (.str [48,49,50,51,52,53,54,55,56,57,97,98,99,100,101,102])) (.t 14)) (.ixStr (.c (.str [48,49,50,51,52,53,54,55,56,57,97,98,99,100,101,102])) (.t 17)) (.ofBytes (.t 22))
def c68:AFn:=⟨1,24,[.tmp 2],yB 4 0x478b5ad0582ceecd09c c68_2⟩
def c69_2 :=(uF (fun a b c d e f g=>jA 23 0x1cfc6d8eb48570c5007c3bd1c34b4bc6a3f042e5ae57c57a32b46b8e07c4a92c479cd5b761228efa89359eedafdb2453bc12e5b3b8d733277cc1e43120912fea97ed06dfb78881445000777052d292b8fd6d09c 3 4 0 [a,b,c] [d,e,f,g] []) _) (.int .u64 9) (.int .u64 10) (.int .u64 48) (.convInt .u8 (.t 8)) (.ofBytes (.t 10)) (.convInt .u8 (.t 17)) (.ofBytes (.t 19))
def c69:AFn:=⟨1,23,[.tmp 2],(c69_2)⟩
def c70_1 :=(uF (fun a b c d e f g h=>jA 13 0x10dca554e1358e042432015e38abfc3cfbe3f2a7ce1d2cd17c5b94cff99332079a2aacb660ea2bda9d2429ac38be8aab8d9a3ec6702e75ac234bc36910 8 0 0 [a,b,c,d,e,f,g,h] [] []) _) (.i 7) (.str [112,117,116]) (.str [116,97,107,101]) (.str [115,104,117,116]) (.str [99,108,111,115,101]) (.str [114,101,115,101,116]) (.str [99,111,110,110,101,99,116]) (.str [114,97,105,115,101])
def c70:AFn:=⟨1,13,[.tmp 2],yB 3 535408201884 c70_1⟩
def c71_2 :=(uF (fun a b c d=>jA 25 0xe731ae0e5edd30ee485a75722ac1d0f103891ea5a2bd1c2c46d3e300da5061b3ced0bce8a896a1f8ea8183632f05afa6e61cad2fb6a5b5750937a1fa48aa7c2cc9438045705d4d0 1 3 0 [a] [b,c,d] []) _) (.int .u8 10) (.sliceS (.t 12) none (some (.t 14))) (.sliceS (.t 16) (some (.t 18)) none) (.callv (.t 21) [(.t 22)])
def c71_3 :=yF 8 0x4f249fe9415abc0e412d07924f72ca5b9cebf9c18071 (.lenS (.t 5)) c71_2
def c71:AFn:=⟨2,25,[],yB 2 16900 c71_3⟩
def c72:AFn:=⟨2,8,[.tmp 4],yA 8 0x4ca912ac4b5f0afa7735d8c8b54335932d109c⟩
def c73:AFn:=⟨2,8,[.tmp 4],yG 8 0xb76f4fc2d5e40a01aaabc012648b54335df1d109c (.i (-1))⟩
def c74_2 :=(uF (fun a b c=>jA 26 0x438a194f6e447b62ee855a17fbdf1013958fd273558760abe0bbe95332234e522dca54919d5cca5de44c330de24bfb30853cebc68779177343f4997c2d75b5f9f2d42ff51c 2 1 0 [a,b] [c] []) _) (.str [80,97,114,115,101,85,105,110,116]) (.nili) (.eq .iface true (.t 17) (.c (.nili)))
def c74:AFn:=⟨3,26,[.tmp 6,.tmp 7],yH 8 0x1da1d5e1cea3f45512c (.nili) c74_2⟩
def c75_1 :=yE 24 0x49edff0091937388ce5fdc2b584b02f43b52e924d3968176ada8d3809d482fc832ed20b8ca3062c3ee514ff401cf53538ad7d109922b9d2c394773fc (.eq .iface false (.t 12) (.c (.nili)))
def c75:AFn:=⟨1,24,[.tmp 2,.tmp 3],yB 4 0xee54407cc8d12c c75_1⟩
def c76:AFn:=⟨1,4,[.tmp 2],yI 4 0x3e74bc8c76a4aa590df662612c (.nilfn) (.mkClo 107 [(.t 1)])⟩
def c77_1 :=(uF (fun a b c=>jA 16 0x2a89c9034a2df7ff11680fd5001bce9553177cc45b9695e81fdce15b1012cac5cc535ca6654d0 0 3 0 [] [a,b,c] []) _) (.lenS (.t 9)) (.lenS (.t 11)) (.sliceS (.t 8) none (some (.t 13)))
def c77:AFn:=⟨2,16,[.tmp 4],yB 5 4789563858358428 c77_1⟩
def c78_0 :=(uF (fun a b c d e=>jA 21 0x21e648d99583138512b2cabf752476052ac50c8e1f7ec0dcbc6cb212be06a6affd7e2a5399c 0 5 0 [] [a,b,c,d,e] []) _) (.lenS (.t 5)) (.lenS (.t 7)) (.lenS (.t 12)) (.lenS (.t 14)) (.sliceS (.t 11) (some (.t 16)) none)
def c78:AFn:=⟨2,21,[.tmp 4],yB 5 4789558881718428 c78_0⟩
def c79_0 :=yE 36 0x218979f486ceed116dc931686e848d7d0ae71310a7935d4e55c904490a570e9663b8eb654fea8dfa319db410b14d9 (.sliceS (.t 29) (some (.t 30)) (some (.t 32)))
def c79_1 :=yJ 19 0x12af647726ec31979e0ff1371f4f246676f02e677396287fd684cfa0c6482124c (.int .u8 32) (.ixStr (.t 12) (.t 13)) c79_0
def c79_2 :=yF 12 0x521c04ec5eac0787487c880da0a06db28213625055d6a0072da7db90 (.lenS (.t 7)) c79_1
def c79_3 :=yB 37 0x596079f98465b25e6080b928c58b566d31f96f9f07adfc686f0e8512c c79_2
def c79:AFn:=⟨1,37,[.tmp 2],yB 3 532661096604 c79_3⟩
def c80_0 :=(uF (fun a b c=>jA 43 0x874b5321afa6c0c9940f556f3ea117f1260746eb9cbb7cd069a9925511217465f1e8c80c1972a92a9020b0077aae910 3 0 0 [a,b,c] [] []) _) (.int .u64 1844674407370955161) (.int .u64 5) (.int .u64 10)
def c80_1 :=(uF (fun a b c d=>jA 32 0x2f6985c4adfc20ac533755b1c1f811f36c 1 2 1 [a] [b,c] [d]) _) (.int .u8 48) (.ixStr (.t 27) (.t 28)) (.convInt .u64 (.t 30)) c80_0
def c80_2 :=(uF (fun a b c d e f=>jA 27 0xfd289e5fbb73e752e7e0888b1e3542362195e14e8c11b4b87a2fe5cdbb20a1754c0859a302e5a1b892c1d83191f10 3 2 1 [a,b,c] [d,e] [f]) _) (.int .u8 48) (.int .u8 57) (.int .u64 1844674407370955161) (.ixStr (.t 12) (.t 13)) (.ixStr (.t 17) (.t 18)) c80_1
def c80_3 :=yF 12 0x521c04ec5eac0787487c880da0a06db28213625055d6a0072da7db90 (.lenS (.t 7)) c80_2
def c80_4 :=yB 44 0x30e04466c3fb5621a94f91b85e4a1fd51fca7ef85b50de91ed09c c80_3
def c80:AFn:=⟨1,44,[.tmp 2],(c80_4)⟩
def c81_0 :=(uF (fun a b c=>jA 10 0x69aa92fd5cd41c04a5943fe5a041ffab1c49139d66d57ce10 2 1 0 [a,b] [c] []) _) (.int .u64 9223372036854775807) (.i (-1)) (.convInt .i64 (.t 8))
def c81:AFn:=⟨1,10,[.tmp 2],yB 6 0x45c1d31df335883813375f71a49d09c c81_0⟩
def c82_0 :=yG 114 0x221ecf087f03d55ee9851f0976ac4ed9a83763d37b1e911cc211c734b22a2e030019baa441479 (.int .u8 16)
def c82_1 :=yH 105 0x3d3adf23077efb7dd4d53ff8c605262ae88cdf990f111b8736c (.int .u8 16) c82_0
def c82_2 :=yF 99 0x45477714ae3075debb0b7267416268f06baa4459eb1a22f11e31f51c (.ixStr (.t 94) (.t 96)) c82_1
def c82_3 :=yF 91 0x6f9c41acdbea3ebdf1a7c4107e9671010fa6cb1e85fab148c (.ixStr (.t 87) (.t 88)) c82_2
def c82_4 :=yF 84 0x13b8f9ebe9fcfe6b8fb8458ace0d1b44fb21a251a16858768bd40b8cfbe549f59a6585d723e9424fc5f690 (.lenS (.t 79)) c82_3
def c82_5 :=yB 116 0x91567dd134b7adae237bbadcc5657fc2fb5162b7fea3cb5353 c82_4
def c82_6 :=yA 65 0x8dd9ebdbb81ea76ae2ee4ebc42fa58c5a5229431c2b6f7132e54d20e749b3fc
def c82_7 :=yB 118 0x690f2aa1dee806bc39ddfb65b8eafd399ab22ea14982f37a63c895901b2627f526c9aebed3b4e33718b505166e17d50 c82_5
def c82_8 :=yC 57 0x192359e59b4f4575b44e3a22d42da9df19331937829149fefd0 c82_6 c82_7
def c82_9 :=yA 47 0x144627277ac645364e112c3d95c50ebfa74fdb2e0e105a2c5eb57e8cb8373fc
def c82_10 :=yC 50 0x5c8260124a70d25c57b8526f292353daabdb94586132c97084e19cfbca96a96070a22d46b7ac9eefd0 c82_9 c82_8
def c82_11 :=yA 25 0x27f6a349af738b44fcf0b974a130d5c2fff1bdb019953e3c4652db53da4751e456988f0b36c
def c82_12 :=yH 17 0x6794ad3d70d88ac3b73884c37841ac56453d163657c3798c24e10 (.i 7) c82_11
def c82_13 :=yB 32 0x25e1d40c5950e14ee4f43bdd5f1a84c8de14954b90e14624cbd68c4755d28a4ae63584182e8e91548c7dd1192b31b1454d0 c82_10
def c82_14 :=yN 13 0x3f0854ef77a3b64768ff3a02894f0ab0be3b137f57f1bc (.build [.i 0,.i 0,.i 0,.nils] []) c82_12 c82_13
def c82:AFn:=⟨1,118,[.cellN 2 4,.tmp 3],yB 4 0xaf2605d053064e6c444d12c c82_14⟩
def c96:AFn:=⟨2,8,[.tmp 4],yA 8 0x4ca912ac4b6154ac7f89fe48b54335932d109c⟩
def c97_2 :=yI 19 0x9ee3fa1b608e88707de941dcd1ab47506f3fddb1a70479431a63d42c56c8398b777844a3a12565ee542e0d4630ee55029ae175583b316cbc4cd71eba7c4f5b65c59d36f2b65bbbfcd6707793d52909c (.i (-1)) (.callv (.t 11) [(.t 15)])
def c97:AFn:=⟨2,19,[.tmp 4],(c97_2)⟩
def c102:AFn:=⟨2,8,[.tmp 4],yA 8 0x4ca912ac4b6245d7b0251cc8b54335932d109c⟩
def c103_2 :=(uF (fun a b c=>jA 58 0x607babfee4bb31812a316a6e2714462136a229ac90f2578181b7bb3e74e4f9c4dbc7d94bcc69b95f71695d09e279a5dd9ae0c5f2ad2ec37900134dbb018c9e8b9497c37ef17b7dba2b8befb5d2e8cda054f37324c 0 3 0 [] [a,b,c] []) _) (.sliceS (.t 44) none (some (.t 47))) (.lenS (.t 52)) (.sliceS (.t 50) (some (.t 54)) none)
def c103_3 :=yE 66 0x33947e2de88187e71ffb434d9e4d417b1781705f52d75e6dd0fea6b4f8820db7d2dc (.slice 1 (.t 62) none (some (.t 64)) none)
def c103_4 :=yC 37 0x69d0efdd5d7715a46381dc7985624467124db70bcff5e030509c c103_2 c103_3
def c103_5 :=yF 34 0x1c6e59543f5632e8bebfb4dc92ee39c72333a0a51bc (.mkSlice 1 16 [.str []] (.t 30) (.t 30)) c103_4
def c103_6 :=(uF (fun a b c=>jA 30 0x493e3ff2389f6fab1a8fb7fd900f1abb36c 0 2 1 [] [a,b] [c]) _) (.lenS (.t 26)) (.minI [(.t 25),(.t 28)]) c103_5
def c103_7 :=yB 25 0x5b0474edf281471b565c73e0cdfa669c2609ce16f22ae79bd1299ca74e10 c103_6
def c103_8 :=yB 19 0x2bd078acf8da722bf8a29343d40093cf378275c204b2dade3ce10 c103_7
def c103_9 :=yB 14 0x390e41fde0bc823df91fcac603c043f5cb5b5268944909c c103_8
def c103:AFn:=⟨4,66,[.tmp 8],(c103_9)⟩
def c104_4 :=yK 134 0xc2cc44f454adfa0a141897ab65dbd6d172dbf26d73c3d (.int .u8 97) (.int .u8 10)
def c104_5 :=(uF (fun a b c d=>jA 130 0x41ae766b7cfdd6c719ad2ecf5f698bd345738fe0aedd11d4d2bbc4b4030302faabc9d8d2bf8d82cf0bf621249f39d51c 2 1 1 [a,b] [c] [d]) _) (.int .u8 97) (.int .u8 122) (.mkIface 171 (.c (.i 2))) c104_4
def c104_6 :=yL 121 0x275d3cd0e0a96548e3d3a2258dd75fd6bdca210a252fd38c63e4e1e69989c4d8ea58124bf054ff45590f477ce7b3fc (.int .u8 48) (.int .u8 57) c104_5
def c104_7 :=yH 112 0x4c2880d4424c33e943cbe30c57b4ce4b4c82a884ac07a62636c8fe7b0fb865392787c24b8bf36c (.int .u8 95) c104_6
def c104_8 :=(uF (fun a b c d e=>jA 163 0x50581bb0bb841a421fe4076eccbd240f646c949e07297b83a4ac3f5444ae846c3fe326f7498d4cb9dbfd8efc5828de9b3862e140006af2f5e2f20fbdd03b8aa7e5881a3b787a521a5f690440dfb93bce17237f77beca8f48792ea33589fb3c96fb28d29312898c13f392212118a5e9b8714b5e32ce75f9b3cf46878d44ab4ad925a9c625f8ecc640829bc10cd24f82d27b5b58b25ad0fc1dd5a3afbf70fb87b3ee9b167b9db90 0 5 0 [] [a,b,c,d,e] []) _) (.convInt .u8 (.t 135)) (.mkIface 171 (.c (.i 2))) (.mkIface 171 (.c (.i 1))) (.convInt .u64 (.t 145)) (.convInt .u64 (.t 149))
def c104_9 :=yC 105 0x239f607096bdc0b2c6826a54d8ad68de9d47cc16b4b4a931bc c104_7 c104_8
def c104_10 :=yB 164 0x73511467f4ca5b5a9f4389342bec4e30a7996dd1f1241b1779aae7d52426466509c c104_9
def c104_11 :=yI 172 0x21104cb6f8ad70eb7b5dcd686392deef3d0847b44c415568aa8b2ebde5675ff4dbe9f5c99fd474ae624e910 (.nili) (.mkIface 171 (.c (.i 2)))
def c104_12 :=yN 102 0x24179cc14aa948d44295a7ed894eda9359db90 (.toBytes (.t 98)) c104_10 c104_11
def c104_15 :=yF 98 0x148e836a7dbaceeb514cff4b2ca7e082ab621866e24487298b70352dc (.convInt .u64 (.t 94)) c104_12
def c104_17 :=(uF (fun a b c d e=>jA 94 0x2236272124e38b344e258d30d1204fd591b737981f8be307aed51592eee053bcb26188b99c42ebf4f94121fe4c6ce2e1504d0498b537219b3886500a808fbeb563b977b8d09c 3 1 1 [a,b,c] [d] [e]) _) (.int .u64 1844674407370955162) (.int .u64 1152921504606846976) (.int .u64 18446744073709551615) (.convInt .u64 (.t 86)) c104_15
def c104_20 :=(uF (fun a b c d e f g h i=>jA 76 0x3fe46aefe90824f34076fce000bdc6e2e3a145151baad7bf3f523cc2466b81375d4048c9678630d4b663a659ab07b944d462b440338a0a582f822c5cbe20137442c0085ff2c8da693b27c9d9d3f4ea0cd986072f73d9411eae1ea884a31193e0fb18f26479135ac 2 7 0 [a,b] [c,d,e,f,g,h,i] []) _) (.int .u8 111) (.int .u8 120) (.lenS (.t 53)) (.ixStr (.t 57) (.c (.i 1))) (.sliceS (.t 62) (some (.c (.i 2))) none) (.lenS (.t 65)) (.ixStr (.t 69) (.c (.i 1))) (.sliceS (.t 74) (some (.c (.i 2))) none) (.sliceS (.t 38) (some (.c (.i 1))) none)
def c104_24 :=(uF (fun a b c d e f g h i=>jA 52 0x113ea2404f4c3788fcb74befa045baaec0becb59089f359fc2c847f856cc06aac30a53ae6b114e12f56e4f9eba893e65977c5aaa897f760b9b1fd927fdea8da6995cf27606def5d954bf905fb099ad1400679aa239250e094c159403d1a806d3b618d59714065cf2ad921cf7ca1911723c240bdcfd3fc 3 5 1 [a,b,c] [d,e,f,g,h] [i]) _) (.i 36) (.int .u8 48) (.int .u8 98) (.ixStr (.t 35) (.c (.i 0))) (.lenS (.t 41)) (.ixStr (.t 45) (.c (.i 1))) (.sliceS (.t 50) (some (.c (.i 2))) none) (.mkIface 171 (.c (.i 3))) c104_20
def c104_25 :=yN 85 0x663a5b8995d5c2de96b877400a9f120d2f105c474afddced645e8f650359be3c8140ef6b7f50b40c5ee62ab056e24b957beb0b79f949ca284632712c (.mkIface 171 (.c (.i 4))) c104_24 c104_17
def c104_26 :=yF 23 0x3f7604f0ceb6b05cfb9747a34f40c8b962c39087cb5d8f70d084611850b9bac1ce10 (.mkIface 171 (.c (.i 2))) c104_25
def c104:AFn:=⟨3,172,[.tmp 6,.tmp 7],yH 8 0x1da1d5e1cea3f45512c (.nili) c104_26⟩
def c107_5 :=(uF (fun a b c=>jA 80 0x28276adefe233e626ba3eb251a5d0c8f451166a2bcafa146f8bcf7a5ac98cbe7e48927d49a46e39ef3b18def6f80a0f8e40da9df5b42ce3c60ebcc20b15d749c9c7734787a25d40f2a327a90217e716639c1940d9fa7ec5ecbc22de5ba78ce72facc4e8f8e073fadae63ff4a81e54e9690aeac16ed55a81cb88142762464fc7dcd50293aab1b0d6ed36c 2 1 0 [a,b] [c] []) _) (.int .u8 119) (.int .u8 110) (.ixStr (.t 55) (.t 56))
def c107_6 :=yF 50 0x17e432aae9ed9d2ff877c7383597bc406eb0f4585d89d2f0238824e4bba605fc50565b7ae9b906fd0 (.lenS (.t 42)) c107_5
def c107_7 :=(uF (fun a b c=>jA 94 0xe01b766431b37b879cf52646f0865570213cd081576fa0941d1aaeb216d0c24fd995763218e73a2874c88efd50 0 3 0 [] [a,b,c] []) _) (.callv (.t 80) [(.t 81),(.t 82)]) (.lenS (.t 90)) (.slice 1 (.t 89) (some (.t 92)) none none)
def c107_8 :=yN 41 0x1229f93c5aa9eb0ef3ca833e937325850e9adc676216d490d88ad69022226dcd6f6d515ac (.lenS (.t 37)) c107_6 c107_7
def c107_9 :=yG 29 0x1059c2266c34611c3f72d86581064ed54c12211aeaed39a630f3ccda87777c9c29896f9182abde51df07974e562549a71a5b1dd9bb1b48f0f2437c9850 (.p 0 0)
def c107_10 :=yN 32 0x2895b489223f88f80e03e68d87f68b55825be038bdee679cd96fbd1f8dbf1bc (.build [.i 0,.i 0,.i 0,.nils] [(0,1,(.c (.i 7)))]) c107_9 c107_8
def c107:AFn:=⟨2,94,[],yC 11 0xa50ec23a06d1bfbf76836411ec0639a3c13c3a (.label 0) c107_10⟩
def c108_1 :=(uF (fun a b c d=>jA 25 0x3b30be1e747387a6a99ec1d7641cf682d88e5e650ff0725930b8667d0b120ee1fe7a58ecf9c46934b78f2a2f7972babac0cafe5c074eb82e4dcc97dce27f6d8562e8abb89f48c 0 4 0 [] [a,b,c,d] []) _) (.sliceS (.t 11) none (some (.c (.i 2)))) (.eq .iface true (.t 16) (.c (.nili))) (.convInt .u8 (.t 19)) (.sliceS (.t 23) (some (.c (.i 2))) none)
def c108_2 :=yF 28 0x1b55ba8a93d77d15c4d42edd8f03cbc89b3a86d436ebd9be3892a1d97e3fb01fc830 (.lenS (.t 7)) c108_1
def c108:AFn:=⟨1,28,[.tmp 2,.tmp 3],yB 5 0x981e6fb88daa9d8376bd12c c108_2⟩
def c109_1 :=(uF (fun a b c d e f=>jA 20 0x37d0367acf812713243e5c98f437781fd4052bfe9bab88c8d37124479e11c6203d66cb564980a41ab3109a64c4dc7b91d3b988482be8f2c6d994315310d00c9d04f8398254336910 6 0 0 [a,b,c,d,e,f] [] []) _) (.int .u8 48) (.int .u8 57) (.int .u8 97) (.int .u8 102) (.int .u8 10) (.int .u8 255)
def c109:AFn:=⟨1,20,[.tmp 2],yB 3 535288762524 c109_1⟩
def c119_4 :=(uF (fun a b c d=>jA 143 0xfe791c72295809e6d973750fbd7d39bc68dadafc6d985b3e55cfdb09fe342b7ddb743b4b43a53a243b52535259abff063dfcb2bf4c237e118b46bff7d58ea0f571ed9edd95e31ab81c70d247df008315cb25d8bfbb0a68b9770b94db53af1ed587c 2 2 0 [a,b] [c,d] []) _) (.int .u64 4) (.i (-1)) .fail (.sliceS (.t 133) (some (.t 134)) none)
def c119_6 :=(uF (fun a b c d=>jA 118 0x1809d5d5ede0a5f82afeafe9e66e87c6a53e8b1e93a3f9431981e3040486cbbd567b8f290234f4b272f33d39bbd255cf7341c864e5070b3af1d172969e94f74763d465ceb9e1bdaba330a2fc3519230c889804f46fc1a953b24944f4ba8ffb3597f1171bc 1 2 1 [a] [b,c] [d]) _) (.i (-1)) .fail (.sliceS (.t 108) (some (.t 109)) none) c119_4
def c119_10 :=(uF (fun a b c d e f=>jA 95 0xdbe7fe5ed6023bbc3024229365023a080bb8b2c9a8c85002ed4a92ea6d58f9c300e28e28224114d04ecb4c43002b242d71774ca7a9fbf7ddef87ee05eac0cce14ef7048e1a3f74d31e91b59afe682bd5ddeadd710238489026fdc04c74408c4858f872f2ba6fc83b0fd24f110796ed6ee5ba6f388efb0ae20cfb9ad503cb12f25fd3d22e0e250 1 4 1 [a] [b,c,d,e] [f]) _) (.i (-1)) (.ixStr (.t 60) (.t 61)) (.sliceS (.t 65) (some (.t 67)) (some (.t 68))) (.ixStr (.t 78) (.t 80)) (.sliceS (.t 85) (some (.t 86)) (some (.t 89))) c119_6
def c119_16 :=(uF (fun a b c d e=>jA 48 0xcc8aa671f3ce00239b52a42a78122adaf7c3ffc482ad7535baa782f10f714d9dacb531af8b6de7acad67c3bf0a7a0e166ac54626a7b9f147bc588444ee9be8b76667f6fb32f54184fbc96a3e6f8e7aa9876056107cd2f5ca9586db41a87116414695ebd4672096b73a53ea80c6d79be8c216ed9798c52cc475f5485c2cb48c 1 4 0 [a] [b,c,d,e] []) _) (.i (-1)) (.ixStr (.t 28) (.c (.i 0))) (.lenS (.t 33)) .fail (.lenS (.t 41))
def c119_17 :=(uF (fun a b c d e=>jA 60 0x13c8339c3e0ef64819d607223c4919d20cbd18fa694a8522a0a1d45329737fff6b5acf03eea4f24687fe07476897c38dc3ee332fc117a75b05ac514086f3a60622f10efc35e91bc 1 3 1 [a] [b,c,d] [e]) _) (.i (-1)) (.ixStr (.t 48) (.c (.i 0))) (.ixStr (.t 50) (.c (.i 1))) (.lenS (.t 52)) c119_10
def c119:AFn:=⟨2,143,[.tmp 4],yN 16 0x2a9ec81d7ed33e3c0484c9b3aeb2631109c (.lenS (.t 14)) c119_16 c119_17⟩
def c127_4 :=yM 50 0x559b2d96bbb6fa5158a175c8dabac4dab17c1b1a1dfe5e625ca3c98551ff914c9d4c3b75a9c3c36fce10b53376c733bab9475c59a501deca22b7467728af5332da58b0b6b97fdba334f466cd6fbeeda066c1568ca0b063a74570bab43fa4ab81f66c1df219403851a919d46b2602d57cc5a46788b269ca28defc2925da34ff4668254750 (.sliceS (.t 35) none (some (.t 36))) (.sliceS (.t 39) (some (.t 40)) none)
def c127_5 :=yF 22 0x5aa06f5881982891aab6f611ab35a1d0c946a55128210ab6ad3002fe25d9366ca03d6f2548efd0 (.mkSlice 1 16 [.str []] (.t 20) (.t 20)) c127_4
def c127:AFn:=⟨2,50,[.tmp 4],yB 12 0x8cc74d0e0dab8e53bc0d36c30ce97109c c127_5⟩
def c128_4 :=(uF (fun a b c d e f=>jA 34 0x625bedfe7527d677dcab0c65127ce65f2d1351e7d908cc2d888926a33356c4f47831aa9892158242bb26d0455c3beaebb3f18563f472896fdc4ec870608336179994e85ab5f85b8bcddc94538ebb6f86ee045d2a1411f631ac87d642b42a3db633be207d229aec1dcedae7aeaf9d91b6384cc15fdbf344c8fb4962954d0 1 5 0 [a] [b,c,d,e,f] []) _) (.i (-1)) (.lenS (.t 7)) (.lenS (.t 13)) (.ixStr (.t 17) (.c (.i 0))) (.lenS (.t 30)) (.sliceS (.t 28) (some (.t 32)) none)
def c128:AFn:=⟨2,34,[.tmp 4],yB 5 4789558483587228 c128_4⟩
def c129:AFn:=⟨1,5,[.tmp 2],yG 5 0xb0e6b2b337afac4ac0f7ecf6d509c (.int .u8 32)⟩
def c130_1 :=yK 92 0x869aab984a11b6a382d9ccb7fba675069bcde70bb37ec8dce10 (.int .i32 95) (.int .i32 33)
def c130_2 :=(uF (fun a b c d e f g h i j k l m=>jA 90 0x1b3196637616aa55843260cabb621abb228718f27088437cc9753b90b6063cfe75906132378b69cc9268a39e37c29e7fe33c996bf3cf73f45c0408fc7dbdfc2c1d63011e58faa4786dc43e2a28017fb451a4912fafd6d3d237d69bb2014e260ec3eb5c72dcc5d53d492a519e48fcbfd8f33a115a2516287a297caf1cd54f6d0 7 5 1 [a,b,c,d,e,f,g] [h,i,j,k,l] [m]) _) (.int .u8 48) (.int .u8 57) (.int .u8 97) (.int .u8 102) (.int .i32 48) (.int .u8 95) (.int .i32 95) (.ixStr (.t 57) (.t 58)) (.ixStr (.t 62) (.t 63)) (.ixStr (.t 70) (.t 71)) (.ixStr (.t 77) (.t 78)) (.ixStr (.t 84) (.t 85)) c130_1
def c130_4 :=(uF (fun a b c=>jA 51 0x2dd22ca5598712f42bde1202f5b2b635feff166f09c 2 1 0 [a,b] [c] []) _) (.int .i32 48) (.int .u8 120) (.ixStr (.t 47) (.c (.i 1)))
def c130_5 :=(uF (fun a b c d e f g h i j k l m=>jA 94 0x25eff0431a3ec43e1a6681834fc56f85769a627d51e78675a6ad1ea746bc10d19267c24e6c2e2e9dadc5c267327392c7116797658ccbd29d72bd734b5f3e7726d35ba414ae707ddeb0196e4af501a2abc2e14367ef7caa9cf68b8ad70eed92b486ceb64e8d19236a990badf7b5e62dca60d94ec9dd452f923106bb40370ef010 5 6 2 [a,b,c,d,e] [f,g,h,i,j,k] [l,m]) _) (.int .u8 48) (.int .u8 98) (.int .u8 111) (.int .u8 120) (.int .i32 95) (.lenS (.t 21)) (.ixStr (.t 25) (.c (.i 0))) (.ixStr (.t 30) (.c (.i 1))) (.ixStr (.t 35) (.c (.i 1))) (.ixStr (.t 41) (.c (.i 1))) (.lenS (.t 52)) c130_4 c130_2
def c130_6 :=(uF (fun a b c d e f g=>jA 21 0x48da94646e14ed2d86c133d6989cf649798cb2d12750f3324d9e1de1ca4b75591aea3da38933cf9f3494136f9d87804c381850 2 4 1 [a,b] [c,d,e,f] [g]) _) (.int .u8 45) (.int .u8 43) (.lenS (.t 6)) (.ixStr (.t 10) (.c (.i 0))) (.ixStr (.t 14) (.c (.i 0))) (.sliceS (.t 19) (some (.c (.i 1))) none) c130_5
def c130:AFn:=⟨1,94,[.tmp 2],yH 5 0x3573c2cf99f4bb50f855c2e9509c (.int .i32 94) c130_6⟩
def c151_1 :=yM 10 0x7882f3fb20fa4293c59e3d49d8a70cecfdd043979e5a7bc9746497f4a5a4776c5da128c5f2f9257d9d09c (.range true (.t 3)) (.next true (.t 4))
def c151:AFn:=⟨1,10,[.tmp 2],(c151_1)⟩
def c152_1 :=(uF (fun a b c d=>jA 19 0x70baff3017927193fbba4aed6d5c19c8df0bc66a3536e73a3cd0f00fd90e80197047e34aaa1dd8027a086e1cfc30fb944aa3cefd0 1 3 0 [a] [b,c,d] []) _) (.int .u8 128) (.ixStr (.t 7) (.c (.i 0))) (.ixStr (.t 11) (.c (.i 0))) (.convInt .i32 (.t 12))
def c152:AFn:=⟨1,19,[.tmp 2,.tmp 3],yH 4 0xee3f9bb648d12c (.int .i32 0) c152_1⟩
def c163_2 :=(uF (fun a b c d e f g=>jA 91 0x86ba48ad493d3e23158d34ab368392865b0b4b07a544bdcdad9df3a5e7e46984ccd70d552164c7a587c 4 3 0 [a,b,c,d] [e,f,g] []) _) (.int .u8 15) (.int .u64 12) (.int .u8 63) (.int .u64 6) (.convInt .i32 (.t 79)) (.convInt .i32 (.t 83)) (.convInt .i32 (.t 88))
def c163_3 :=(uF (fun a b c d e f g h i j k l m n=>jA 117 0x55f82fae467a62ad36e0d69292d38b49b95a2e31769b5c8fdf84b45ebe6e65523a06bad3125fa2638c8337adf0d62cd5e88082045508af37420148f7569a95593b5060fff6eb46119bc975dafcbce8152dc53d9ea81107d580bd304ab360150cc44594ea7e6f1db4963579eece10 8 5 1 [a,b,c,d,e,f,g,h] [i,j,k,l,m] [n]) _) (.int .u8 128) (.int .u8 191) (.int .i32 65533) (.int .u8 7) (.int .u64 18) (.int .u8 63) (.int .u64 12) (.int .u64 6) (.ixStr (.t 91) (.c (.i 3))) (.convInt .i32 (.t 100)) (.convInt .i32 (.t 104)) (.convInt .i32 (.t 109)) (.convInt .i32 (.t 114)) c163_2
def c163_7 :=(uF (fun a b c d e f g h i j=>jA 76 0x472489e146fe63239d49422497574ec08e31c31056bc98cd316427734f733411aef49ef96c444003406edb830b5672178db667e28c008a020cc91bcafff77a37027b49ed8ba5e5b1ae5e3a2024f59d2e76165f03cd31c96fb801be22146659eb7bcc09f465c5f0b50b5024bc1941a677d09de24ebf671313b09188e70410 6 3 1 [a,b,c,d,e,f] [g,h,i] [j]) _) (.int .i32 65533) (.int .u8 31) (.int .u64 6) (.int .u8 63) (.int .u8 128) (.int .u8 191) (.convInt .i32 (.t 61)) (.convInt .i32 (.t 65)) (.ixStr (.t 68) (.c (.i 2))) c163_3
def c163_13 :=(uF (fun a b c d e f g h i j k l m=>jA 48 0x1b07d31fd5475a07b42c84dbf0e0aced9d167ff8f5ea716d7381144adf45207a646d83613eb9c2fd653ac30cb379fd27a60bff452593535893f90d4744d9a89991aa313ca06758e24324b195207f8c3ef52e2e1fffab6c45ce70de8aee8983dfdcee0363a896689a4d8b19cd783cb744d79ea9c1f21e6b471a4de30ea454198164d346c1970943244f46fe0138c03c2d8cb1bc 5 7 1 [a,b,c,d,e] [f,g,h,i,j,k,l] [m]) _) (.int .u8 240) (.int .u64 31) (.int .i32 65533) (.int .u8 7) (.int .u64 4) (.ixStr (.t 17) (.c (.i 0))) .fail (.convInt .i32 (.t 24)) (.ixStr (.t 28) (.c (.i 0))) (.convInt .i32 (.t 29)) (.convInt .i64 (.t 37)) (.ixStr (.t 46) (.c (.i 1))) c163_7
def c163_14 :=yJ 17 0x434d230e264fcdf21327168a8cf812114f2733c95e19d4ca7e31bc (.int .i32 65533) (.lenS (.t 13)) c163_13
def c163:AFn:=⟨1,117,[.tmp 2,.tmp 3],yH 4 0xee3f9bb648d12c (.int .i32 0) c163_14⟩
def jaT:Prog := { fns:=[(3,c3),(6,c6),(7,c7),(8,c8),(10,c10),(11,c11),(12,c12),(13,c13),(24,c24),(25,c25),(26,c26),(27,c27),(28,c28),(29,c29),(30,c30),(32,c32),(34,c34),(35,c35),(36,c36),(37,c37),(38,c38),(39,c39),(40,c40),(55,c55),(56,c56),(57,c57),(58,c58),(59,c59),(60,c60),(61,c61),(62,c62),(63,c63),(68,c68),(69,c69),(70,c70),(71,c71),(72,c72),(73,c73),(74,c74),(75,c75),(76,c76),(77,c77),(78,c78),(79,c79),(80,c80),(81,c81),(82,c82),(96,c96),(97,c97),(102,c102),(103,c103),(104,c104),(107,c107),(108,c108),(109,c109),(119,c119),(128,c128),(129,c129),(127,c127),(130,c130),(151,c151),(152,c152),(163,c163)],prims:=[(65,jhl 2),(66,jhj 2),(67,jfW),(105,jdp 3 4 171),(106,jeL 3 4),(126,jaH),(153,jeK)] }
theorem jiC:jci jaT:=jci.of (List.forall_mem_cons.2 ⟨Am.pFmtU_F 2,List.forall_mem_cons.2 ⟨Am.pItoa_F 2,List.forall_mem_cons.2 ⟨Am.pJoin_F,List.forall_mem_cons.2 ⟨Am.pToErr_F 3 4 171,List.forall_mem_cons.2 ⟨Am.pAtoi_F 3 4,List.forall_mem_cons.2 ⟨Am.jhk,List.forall_mem_cons.2 ⟨Am.pCount_F,fun _ h=>nomatch h⟩⟩⟩⟩⟩⟩⟩)
def prog:Prog := { fns:=jaT.fns,prims:=(9,jcM jaT 100000 28 32 30 120) :: jaT.prims }
theorem primsF:jci prog:=jci.cons (pParts_F jiC) jiC rfl
def cx:Cx:=⟨[(3,⟨.int .i64,1,8,(some (.i 0)),false⟩),(4,⟨.bool,1,1,(some (.bool false)),false⟩),(5,⟨.int .u8,1,1,(some (.int .u8 0)),false⟩),(9,⟨.str,1,16,(some (.str [])),false⟩),(21,⟨.int .i32,1,4,(some (.int .i32 0)),false⟩),(22,⟨.slice 30,1,24,(some (.nils)),false⟩),(24,⟨.int .i64,1,8,(some (.i 0)),false⟩),(26,⟨.int .u64,1,8,(some (.int .u64 0)),false⟩),(27,⟨.slice 3,1,24,(some (.nils)),false⟩),(28,⟨.slice 46,1,24,(some (.nils)),false⟩),(30,⟨.struct [(0,26),(1,4),(2,27),(3,28)],4,64,(some (.agg [.int .u64 0,.bool false,.nils,.nils])),false⟩),(44,⟨.slice 5,1,24,(some (.nils)),false⟩),(46,⟨.struct [(0,3),(1,3),(2,3),(3,44)],4,48,(some (.agg [.i 0,.i 0,.i 0,.nils])),false⟩),(67,⟨.iface,1,16,(some (.nili)),false⟩),(104,⟨.slice 9,1,24,(some (.nils)),false⟩),(106,⟨.array 8 9,8,128,(some (.agg [.str [],.str [],.str [],.str [],.str [],.str [],.str [],.str []])),false⟩),(149,⟨.int .u64,1,8,(some (.int .u64 0)),false⟩),(171,⟨.int .i64,1,8,(some (.i 0)),false⟩),(209,⟨.array 256 5,256,256,(some (.agg (List.replicate 256 (.int .u8 0:V)))),false⟩),(211,⟨.struct [(0,5),(1,5)],2,2,(some (.agg [.int .u8 0,.int .u8 0])),false⟩),(212,⟨.array 16 211,32,32,(some (.agg (List.replicate 32 (.int .u8 0:V)))),false⟩)],[0,2,3,4]⟩
def jar:List V:=[.int .u64 1,.int .u64 10,.int .u64 100,.int .u64 1000,.int .u64 10000,.int .u64 100000,.int .u64 1000000,.int .u64 10000000,.int .u64 100000000,.int .u64 1000000000,.int .u64 10000000000,.int .u64 100000000000,.int .u64 1000000000000,.int .u64 10000000000000,.int .u64 100000000000000,.int .u64 1000000000000000,.int .u64 10000000000000000,.int .u64 100000000000000000,.int .u64 1000000000000000000,.int .u64 10000000000000000000]
def jaO:List V:=[.ifc]
def jaF:List V:=[.ifc]
def jay:List V:=[.str [],.str [112,117,116],.str [116,97,107,101],.str [115,104,117,116],.str [99,108,111,115,101],.str [114,101,115,101,116],.str [99,111,110,110,101,99,116],.str [114,97,105,115,101]]
end Am.Sigs
