/- Our own library, part 14. -/
import Derived.Test.YtkhkjhojpoandaaGreatDoorW12
import Derived.Test.YtkhkjhojpoandaaGreatDoorW13
set_option maxHeartbeats 8000000
set_option maxRecDepth 800
set_option linter.all false
set_option maxRecDepth 100000
namespace Am.Sigs
open Am Go
abbrev uF {α:Sort _} (f g:α) (_:f=g:=by (repeat (apply funext;intro));conv=>{lhs;cbv}):α:=g
section
variable (S a b c:Nat) (vs:List V) (is:List I) (ps:List AC)
def rV (N:Nat):V × Nat:=match N%33 with
 | 32=>(vs.getD (N/33%a) .nilfn,N/33/a)
 | n=>(([.i 0,.i 1,.bool false,.bool true,.nils,.i 2,.i 3,.ptr none,.i 110,.i 111,.i 64,.i 31,.i 32,.i 113,.i 115,.i 116,.i 4,.i 95,.i 112,.int .u64 1,.i 96,.i 5,.i 8,.i 16,.int .u64 0,.int .u32 0,.int .u8 0,.str [],.i 10,.i 100,.int .u32 1,.i 65536]:List V).getD n .nilfn,N/33)
def rO (l N:Nat):Opd × Nat:=match N%3 with
 | 0=>(.t l,N/3)
 | 1=>(.t (N/3%S),N/3/S)
 | _=>match rV a vs (N/3) with | (x,N)=>(.c x,N)
def r1 (l N:Nat) (k:Opd->I):I × Nat:=match rO S a vs l N with | (x,N)=>(k x,N)
def r2 (l N:Nat) (k:Opd->Opd->I):I × Nat:=match rO S a vs l N with | (x,N)=>match rO S a vs l N with | (y,N)=>(k x y,N)
def rL {β:Type} (r:Nat->β × Nat):Nat->Nat->List β × Nat
 | 0,N=>([],N)
 | n+1,N=>match r N with | (x,N)=>match rL r n N with | (l,N)=>(x::l,N)
def rB (l N:Nat):(Nat × Opd) × Nat:=match rO S a vs l (N/32) with | (x,M)=>((N%32,x),M)
def rI (l N:Nat):I × Nat:=match N%20 with
 | 0=>r1 S a vs l (N/20) .mv
 | 1=>r1 S a vs l (N/20/1024) (.faddr (N/20%1024))
 | 2=>r1 S a vs l (N/20) .load1
 | 3=>r1 S a vs l (N/20) .nilck
 | 4=>r1 S a vs l (N/20/16) fun x=>.extract x (N/20%16)
 | 5=>r2 S a vs l (N/20/1024) (.store (N/20%1024))
 | 6=>r2 S a vs l (N/20/32) (.bin (([.add,.sub,.mul,.quo,.rem,.and,.or,.xor,.shl,.shr,.andNot,.eql,.neq,.lss,.leq,.gtr,.geq]:List BinOp).getD (N/20%32) .add))
 | 7=>match rO S a vs l (N/20) with | (x,N)=>r2 S a vs l N (.pick x)
 | 8=>match rL (rO S a vs l) (N/20/1024%16) (N/20/1024/16) with | (x,M)=>(.call (N/20%1024) x,M)
 | 9=>r2 S a vs l (N/20/1024/1024) (.ixaA (N/20%1024) (N/20/1024%1024))
 | 10=>r2 S a vs l (N/20/1024) (.ixaS (N/20%1024))
 | 11=>r1 S a vs l (N/20/1024) (.loadN (N/20%1024))
 | 12=>r1 S a vs l (N/20) .lenL
 | 13=>r1 S a vs l (N/20/4) (.un (([.not,.neg,.xor]:List UnOp).getD (N/20%4) .not))
 | 14=>r2 S a vs l (N/20/1024/1024) (.append (N/20%1024) (N/20/1024%1024))
 | 15=>r1 S a vs l (N/20/32) (.box (N/20%32))
 | 16=>match rL (rV a vs) (N/20/32%32) (N/20/32/32) with | (x,M)=>(.alloc (N/20%32) x,M)
 | 17=>match rL (rV a vs) (N/20/32/32%64) (N/20/32/32/64) with | (x,M)=>match rL (rB S a vs l) (M%32) (M/32) with | (y,M)=>(.bslice (N/20%32) (N/20/32%32) x y,M)
 | _=>(is.getD (N/20%b) .fail,N/20/b)
def r3 (g:Option (Nat × Bool)) (h N:Nat):Option (Nat × Bool) × Nat:=match h with
 | 0=>(none,N)
 | 1=>(g,N)
 | _=>(some (N%S,Nat.beq (N/S%2) 1),N/S/2)
def rC (g:Option (Nat × Bool)) (l N:Nat):(Nat × I × Option (Nat × Bool)) × Nat:=match rI S a b vs is l (N/S) with | (i,M)=>match r3 S g (M%3) (M/3) with | (g,M)=>((N%S,i,g),M)
def rP (j h N:Nat):Nat × Nat:=match h%2 with | 0=>(j,N) | _=>(N%1024,N/1024)
def rQ (l h N:Nat):Option Nat × Nat:=match h with | 0=>(some (l+1),N) | 1=>(some (N%S),N/S) | _=>(none,N)
def r4 (q:Option (Nat × Bool)) (l h N:Nat):Option Nat × List (Nat × I × Option (Nat × Bool)) × Nat:=match h with
 | 0=>(none,[],N)
 | _=>match rL (rC S a b vs is q l) (N/8%32) (N/8/32) with | (c,M)=>(match N%8 with | 0=>none | a+1=>some a,c,M)
def rM (j l h N:Nat) (q:Option (Nat × Bool)):(Ins × Nat) × Nat:=match rP j h N with
 | (j,N)=>match rQ S l (h/2%3) N with
 | (d,N)=>match r3 S q (h/6%3) N with
 | (g,N)=>match r4 S a b vs is (g.or q) l (h/18) N with
 | (x,y,N)=>match rI S a b vs is l N with | (i,N)=>((⟨j,d,i,g,x,y⟩,d.getD l),N)
def sJ (r:Nat->Nat->Option (Nat × Bool)->Nat->(List Ins × Nat) × Nat) (j l:Nat) (q:Option (Nat × Bool)) (N:Nat):(List Ins × Nat) × Nat:=match rM S a b vs is j l (N%36) (N/36) q with
 | ((x,l),N)=>match r (x.ix+1) l (x.guard.or q) N with | ((r,l),N)=>((x::r,l),N)
def rJ:Nat->Nat->Nat->Option (Nat × Bool)->Nat->(List Ins × Nat) × Nat
 | 0,_,l,_,N=>(([],l),N)
 | n+1,j,l,q,N=>sJ S a b vs is (rJ n) j l q N
def sD (r:Nat->Nat->List Nat × Nat) (p N:Nat):List Nat × Nat:=match N%2 with
 | 0=>match r (p+N/2%8) (N/2/8) with | (r,M)=>((p+N/2%8)::r,M)
 | _=>match r (p+N/2%S) (N/2/S) with | (r,M)=>((p+N/2%S)::r,M)
def rD:Nat->Nat->Nat->List Nat × Nat
 | 0,_,N=>([],N)
 | n+1,p,N=>sD S (rD n) p N
def rK (p:List Nat) (N:Nat):List Nat × Nat:=match N%4 with
 | 0=>(p,N/4)
 | 1=>rD S (N/4%64) 0 (N/4/64)
 | 2=>rL (fun N=>(N%S,N/S)) (N/4%64) (N/4/64)
 | _=>(p++[N/4%S],N/4/S)
def sA (r:Nat->List Nat->Nat->AC × Nat × List Nat × Nat) (N:Nat) (p:List Nat) (l:Nat):AC × Nat × List Nat × Nat:=match N%12 with
 | 0=>match r (N/12) p l with | (x,N,p,l)=>match r N p l with | (y,N,p,l)=>(.seq x y,N,p,l)
 | 1=>match rJ S a b vs is (N/12%128) 0 l none (N/12/128) with | ((q,l),N)=>match rK S p N with | (p,N)=>(.region 0 q p,N,p,l)
 | 2=>match rJ S a b vs is (N/12/8%128) 0 l none (N/12/8/128) with | ((q,l),M)=>match rK S p M with | (p,M)=>(.region (N/12%8) q p,M,p,l)
 | 3=>match rO S a vs l (N/12) with | (x,N)=>match r N p l with | (y,N,p,l)=>match r N p l with | (z,N,p,l)=>(.cond x y z,N,p,l)
 | 4=>match r (N/12/128) p l with | (x,M,p,l)=>(.block (N/12%128) x,M,p,l)
 | 5=>match rK S p (N/12) with | (k,N)=>match r N k l with | (x,N,q,l)=>(.loop k x,N,q,l)
 | 6=>(.skip,N/12,p,l)
 | 7=>(.ret,N/12,p,l)
 | 8=>(.exit (N/12%128),N/12/128,p,l)
 | 9=>match rO S a vs l (N/12) with | (x,N)=>match rK S [] N with | (y,N)=>match rK S p N with | (k,N)=>match r N k l with | (z,N,p,l)=>match r N p l with | (w,N,p,l)=>(.rangeFunc x y k z w,N,p,l)
 | 10=>match r (N/12) p l with | (x,N,p,l)=>(.scope x,N,p,l)
 | _=>(ps.getD (N/12%c) .skip,N/12/c,p,l)
def rA:Nat->Nat->List Nat->Nat->AC × Nat × List Nat × Nat
 | 0,N,p,l=>(.skip,N,p,l)
 | f+1,N,p,l=>sA S a b c vs is ps (rA f) N p l
end
def jA (S N a b c:Nat) (vs:List V) (is:List I) (ps:List AC):AC:=(rA S a b c vs is ps 40 N [] 0).1
abbrev yA (S N:Nat)  {g:AC} (_:(jA S N 0 0 0 [] [] [])=g:=by (repeat (apply funext;intro));conv=>{lhs;cbv}):AC:=g 
abbrev yB (S N:Nat) (a:AC) {g:AC->AC} (_:(fun a=>jA S N 0 0 1 [] [] [a])=g:=by (repeat (apply funext;intro));conv=>{lhs;cbv}):AC:=g a
abbrev yC (S N:Nat) (a b:AC) {g:AC->AC->AC} (_:(fun a b=>jA S N 0 0 2 [] [] [a,b])=g:=by (repeat (apply funext;intro));conv=>{lhs;cbv}):AC:=g a b
abbrev yD (S N:Nat) (a b c:AC) {g:AC->AC->AC->AC} (_:(fun a b c=>jA S N 0 0 3 [] [] [a,b,c])=g:=by (repeat (apply funext;intro));conv=>{lhs;cbv}):AC:=g a b c
abbrev yE (S N:Nat) (a:I) {g:I->AC} (_:(fun a=>jA S N 0 1 0 [] [a] [])=g:=by (repeat (apply funext;intro));conv=>{lhs;cbv}):AC:=g a
abbrev yF (S N:Nat) (a:I)(b:AC) {g:I->AC->AC} (_:(fun a b=>jA S N 0 1 1 [] [a] [b])=g:=by (repeat (apply funext;intro));conv=>{lhs;cbv}):AC:=g a b
abbrev yG (S N:Nat) (a:V) {g:V->AC} (_:(fun a=>jA S N 1 0 0 [a] [] [])=g:=by (repeat (apply funext;intro));conv=>{lhs;cbv}):AC:=g a
abbrev yH (S N:Nat) (a:V)(b:AC) {g:V->AC->AC} (_:(fun a b=>jA S N 1 0 1 [a] [] [b])=g:=by (repeat (apply funext;intro));conv=>{lhs;cbv}):AC:=g a b
abbrev yI (S N:Nat) (a:V)(b:I) {g:V->I->AC} (_:(fun a b=>jA S N 1 1 0 [a] [b] [])=g:=by (repeat (apply funext;intro));conv=>{lhs;cbv}):AC:=g a b
abbrev yJ (S N:Nat) (a:V)(b:I)(c:AC) {g:V->I->AC->AC} (_:(fun a b c=>jA S N 1 1 1 [a] [b] [c])=g:=by (repeat (apply funext;intro));conv=>{lhs;cbv}):AC:=g a b c
abbrev yK (S N:Nat) (a b:V) {g:V->V->AC} (_:(fun a b=>jA S N 2 0 0 [a,b] [] [])=g:=by (repeat (apply funext;intro));conv=>{lhs;cbv}):AC:=g a b
abbrev yL (S N:Nat) (a b:V)(c:AC) {g:V->V->AC->AC} (_:(fun a b c=>jA S N 2 0 1 [a,b] [] [c])=g:=by (repeat (apply funext;intro));conv=>{lhs;cbv}):AC:=g a b c
abbrev yM (S N:Nat) (a b:I) {g:I->I->AC} (_:(fun a b=>jA S N 0 2 0 [] [a,b] [])=g:=by (repeat (apply funext;intro));conv=>{lhs;cbv}):AC:=g a b
abbrev yN (S N:Nat) (a:I)(b c:AC) {g:I->AC->AC->AC} (_:(fun a b c=>jA S N 0 1 2 [] [a] [b,c])=g:=by (repeat (apply funext;intro));conv=>{lhs;cbv}):AC:=g a b c
abbrev mV (i d x:Nat):Ins := .mk4 i (some d) (.mv (.t x)) none
abbrev qQ (i d:Nat) (x:I):Ins := .mk4 i (some d) x none
abbrev aA (i d f a:Nat):Ins := .mk4 i (some d) (.call f [.t a]) none
abbrev sQ (a b:AC):AC := .seq a b
abbrev rG (l:List Ins) (k:List Nat):AC := .region 0 l k
abbrev cD (s:Nat) (a:AC):AC := .cond (.t s) a .skip
abbrev rT (l:List Ins) (k:List Nat):AC := .seq (.region 0 l k) .ret
def c3_0 :=yM 254 0x29a0f4760738ba44289f709d1e4979d065030865487c7c5aaae32cddc11fb6bff26d9e6a5828aad90d8630fc91f00b4efa06b9685eb5d9d649723fd95d94d401caf4e1b73b844cf9e61c167b3983fcb2e5b24ad4a9441e0b5395d2a6d63e2c1fcca236cd60e2b6e1457da733ec96d881a8765a7ab15fa3d5f5f5f7e700c25eea2d4362d07255fc45d888d2479d3e39c91a72fe9bf659f9f1fc0d446f3588dbda2869d9a0b46ea81da2a1581d24a9f526eb772c0439f1294335bd80d6fef520008f164c (.build [.i 0,.i 0,.i 0,.i 0] []) (.eq .ptr false (.t 240) (.c (.ptr none)))
def c3_6 :=(uF (fun a b c d e f g h=>jA 187 0x137cea676c8f16b7b14ff832deaadea185fb7fcaad4041daab96426cc761ba931580f6e6c79ae011a7c8e2b26b14c49a56b67b81707edf1f72a1c15f66723bd36c47f85a3e88f4e628eef687b09a3975d411b3ba532fa8ec140a9b64dcc0116dd45ab68c3c0664a746e5982b143907477c14bcc9a0f4093e100c7cfc53f6f098acfd10925ed3fc 4 3 1 [a,b,c,d] [e,f,g] [h]) _) (.i (-1)) (.i 10001) .nili (.map none) (.build [.i 0,.i 0,.i 0,.i 0] [(0,1,(.c (.i 3)))]) (.mkSlice 5 56 [.i 0,.i 0,.i 0,.int .u64 0,.nils] (.c (.i 51)) (.c (.i 51))) (.build [.i 0,.i 0,.i 0,.i 0] [(0,1,(.c (.i 1))),(1,1,(.c (.i 1))),(2,1,(.c (.i 2)))]) c3_0
def c3_11 :=(uF (fun a b c d e=>jA 165 0x869bbfd6470cdb00bbed00d8090adcc96450aaf65bea5c7313d0812f489db13be3863bd26a1773884855c38fa80c24cfb4f5d1a713ed618e01b3dbaaea75e65a99c927cbb0871bd3dee912eb64055463c9dbf2b2b814c03fdd3f792393f73f4e3973b7903676fa88c5b8a48f8c24e74c14221b7bb7b73275ef8a35f53d5350eb2e9aa2cce37a48d26442a2148c 1 3 1 [a] [b,c,d] [e]) _) (.nili) (.mkIface 45 (.t 136)) (.mkIface 45 (.t 148)) (.mkIface 45 (.t 155)) c3_6
def c3_13 :=(uF (fun a b c=>jA 129 0x526d43926ebd3292804c2876f249151fd84b05f9e98433e01a6765235925128638c0d508a0acded38d22e8a156968510dc0750fa47bc2a98b7072655146ecb2d2d5a9e4a886a2b6ce317018cecc5094487a9ef2f03e2e14db097af5eb01c867ed442d81f375cc4a5c90dcf83cec58ae122aa4fed30d608fa0d5a40e8c3635 3 0 0 [a,b,c] [] []) _) (.i 15) (.i 7) (.i 9)
def c3_16 :=(uF (fun a b c d e f=>jA 83 0xd31b92a671aba417f8a2bf79eae4eba8bc6ae3f25c70918ed68a2740996e4fba1c0431c088f91ab7bb827652c3ab6e6963924dc6c9c6eec483bcde26821d8f96a6f8d8a67dfa3e5a40c7c0aa9e36e73cc45e37ea1fdd2e6771f9e421028d6adcbbbe56c4edbad1b7db5b8ff604a0fd56975542fbba32a69ba079425329b4c6bd3b263e575da4083934ad751c 0 5 1 [] [a,b,c,d,e] [f]) _) (.build [.i 0,.i 0,.i 0,.i 0] [(0,1,(.c (.i 2))),(1,1,(.c (.i 1)))]) (.build [.i 0,.i 0,.i 0,.i 0,.i 0,.bool false,.int .u64 0,.nils] [(0,1,(.c (.i 1))),(1,4,(.t 64))]) (.build [.nils,.nils,.nils,.nils,.i 0] [(2,1,(.t 66)),(3,1,(.t 67)),(4,1,(.c (.i 5)))]) (.build [.i 0,.i 0,.i 0,.i 0,.i 0,.bool false,.int .u64 0,.nils] [(0,1,(.c (.i 1))),(1,4,(.t 74)),(5,1,(.c (.bool true)))]) (.build [.nils,.nils,.nils,.nils,.i 0] [(2,1,(.t 76)),(3,1,(.t 77)),(4,1,(.c (.i 5)))]) c3_13
def c3_17 :=(uF (fun a b c d e f g h i j k l=>jA 57 0x69324eb008e5c6fd489ad3bc5c913f6b5bd9bba1eb8eaa16f0de06947f5d9bb6139519d6ae0bfeee642677525aacbc27b8145e305bf60ca2fadb54201040f5d81eb7795ab6e89d24c946ba0d06cda5d62e0521030fd2a6ed489deb1db4c 0 11 1 [] [a,b,c,d,e,f,g,h,i,j,k] [l]) _) (.build [.i 0,.i 0,.i 0,.int .u64 0,.nils] [(0,1,(.c (.i 12)))]) (.build [.i 0,.i 0,.i 0,.int .u64 0,.nils] [(0,1,(.c (.i 99)))]) (.build [.i 0,.i 0,.i 0,.i 0,.i 0,.bool false,.int .u64 0,.nils] [(0,1,(.c (.i 1))),(1,4,(.t 39)),(5,1,(.c (.bool true))),(6,1,(.c (.int .u64 2))),(7,1,(.t 42))]) (.build [.i 0,.i 0,.i 0,.int .u64 0,.nils] [(0,1,(.c (.i 13)))]) (.build [.i 0,.i 0,.i 0,.int .u64 0,.nils] [(0,1,(.c (.i 11))),(1,1,(.c (.i 1)))]) (.build [.i 0,.i 0,.i 0,.i 0,.i 0,.bool false,.int .u64 0,.nils] [(0,1,(.c (.i 2))),(1,4,(.t 44)),(5,1,(.c (.bool true))),(6,1,(.c (.int .u64 2))),(7,1,(.t 47))]) (.build [.i 0,.i 0,.i 0,.int .u64 0,.nils] [(0,1,(.c (.i 14))),(3,1,(.c (.int .u64 1)))]) (.build [.i 0,.i 0,.i 0,.int .u64 0,.nils] [(0,1,(.c (.i 5))),(1,1,(.c (.i 0)))]) (.build [.i 0,.i 0,.i 0,.i 0,.i 0,.bool false,.int .u64 0,.nils] [(0,1,(.c (.i 3))),(1,4,(.t 49)),(5,1,(.c (.bool true))),(6,1,(.c (.int .u64 9))),(7,1,(.t 52))]) (.bslice 8 3 ((List.replicate 3 ([.i 0,.i 0,.i 0,.i 0,.i 0,.bool false,.int .u64 0,.nils]:List V)).flatten) [(0,(.t 43)),(1,(.t 48)),(2,(.t 53))]) (.build [.nils,.nils,.nils,.nils,.i 0] [(2,1,(.t 54)),(3,1,(.t 55)),(4,1,(.c (.i 20)))]) c3_16
def c3_19 :=yN 135 0x18b07f7cde35a6b03d368eb902996cfd9325b54e1cc4e243feaed1b23b9417e16f92984f92f51d2d445a26f3bbd4916e6bdbdf6ec045c5803e0123cd5c740a8e0b583b654299b78d50adf39ceac5ed2ac8467471bc (.build [.i 0,.i 0,.i 0,.i 0] [(0,1,(.c (.i 3))),(2,1,(.c (.i 16)))]) c3_17 c3_11
def c3:AFn:=⟨0,254,[.tmp 0],yB 2 115829674140 c3_19⟩
def c4_8 :=yA 98 0x513471ec11cbca57f88414a2289ba3fc0c7e2003febf6f1e69b56a425a6822329a92128ebf1c7144306d4479d9a746af15920a7602e0162f6e2eaa141f03e615e224724cc92e5b30b0fe929944d3e53dee7b877d6ac236c754ba83730d3c43ab1838acd2904cd90e39a0e6e24d83613e4ada3c4c4979c59cf4184334306056021a7d0d7d3d3a8b86bfca21c31426b9272b6a1b631c04a4d00a8566075623c8cc293cad3200bf1331477ef6f1002825454
def c4_9 :=yA 128 0x7351b464097bdd5a53db4c200962662fde677a1858cea0859165802fe49223ba2bd3dca83b6a442acefe0384beebe741136c2026043f7388b749229953447a9b5aa7fb47b1d02051a37c876d42bf4f9d2eb4bd25d2f9bac2e55d0eece22c49b566f29a912bab468741073710b373bf66c513493417a744a0bef517ee20a54e73650d10e3df31f3e191d5d0deb1ebc85b8717180737eae350de6a849db90
def c4_14 :=yN 67 0x4f6e189f8b4fd4fc0937621c525d9017d82f6e164edb0f22f0f6f6ead436aebfecac9c6325c1c58050b6aa85bcb32613bb3f54c153e554bea58e8f4163223c519458a104b2769d5d291d7c67e62247c0ceb8d7922e6dd65878db378dfb9c774f115ceaf85b637fdef085d85fef315f30adbf544e17857eb8e1c848b60ab35e24258d77211bec45a471ab43e6ab20db565fae957ed0e128c045a90bace10 (.eq .iface false (.t 36) (.c (.nili))) c4_8 c4_9
def c4_18 :=yB 36 0xb58eb0ae4458a9046d14ad37850a423aceec3441fa05dd11968718e2e6fabd73d85a9f7c4b21194d430200430f2b5d9fd00e977740d34f8da646d84e32a2cf05ab53caa6a04cd8c13e053c99ae9cedb08cac5e920e2ceae679e0643b2c14cf7c64fefb54b195c71bc c4_14
def c4:AFn:=⟨3,128,[.cellN 6 4,.tmp 7],(c4_18)⟩
def c5_0 :=yM 4 0x5edd46a407338e8e024c (.build ((List.replicate 96 ([.bool false,.i 0,.i 0]:List V)).flatten++[.nils,.ptr none,.int .u64 0,.bool false,.i 0,.i 0]) [(289,1,(.t 1))]) (.box 294 (.t 2))
def c5:AFn:=⟨0,4,[.tmp 0],yB 2 116227805340 c5_0⟩
def c6_1 :=yE 16 0x1096f2fb36b9ac5c1e25ed715db3bf961245c93660a324c01046616a434ee23b412a57342284caf6af629375beb589e771bc (.eq .ptr false (.t 7) (.c (.ptr none)))
def c6_2 :=yM 20 0x13d6e9416c69a354ffe6f56622936c (.build ([.ptr none]++List.replicate 98 (.i 0:V)) [(0,1,(.t 16)),(1,1,(.t 17))]) (.box 99 (.t 18))
def c6:AFn:=⟨2,20,[.tmp 4,.tmp 5],yC 6 0x13c192e1bcab4916ca2112c c6_1 c6_2⟩
def c7_4 :=(uF (fun a b c=>jA 66 0x4aaf7d1a96a24c5b0671c333a1ccee1ef6bf844782c03669b8e8b268b505c81ae4703f661e44906443fa07200dd63d7cec05f02a9f824f0888771832979c72e4c987c65c8d937599159d551d244a3a26b8a96c0e517fbc1c4bcb942d50b94459ec337398a3ce8483f0187a14f5c1aebbfc2d0a45cea22f701ced48d07fe68eeaf1a897ce4e10 0 3 0 [] [a,b,c] []) _) (.invoke [(43,21),(45,300),(111,320)] (.t 44) [(.t 45)]) .mkMap (.build [.ptr none,.nili,.ptr none,.ptr none,.map none,.nils,.nils,.bool false,.bool false] [(0,1,(.t 56)),(1,1,(.t 57)),(2,1,(.t 58)),(3,1,(.t 59)),(4,1,(.t 60)),(5,1,(.t 63))])
def c7_8 :=(uF (fun a b c=>jA 37 0x2732c194157b2267d9c7fb2af910e63ec08929c360ec579ff2ab402538bd96b43ae38afb3898f617dcabd91399085ea30848d98a08b7bdeb87111d0b24e2efdc72cd06fec2f7f5254cfa334dad993b6e957f00f6fd15d70f585847d86b0d9e39f8a2fad2819510abd73fd6910 0 2 1 [] [a,b] [c]) _) (.eq .ptr false (.t 15) (.c (.ptr none))) (.eq .iface false (.t 18) (.c (.nili))) c7_4
def c7:AFn:=⟨4,66,[.tmp 8,.tmp 9],yB 10 0x250ab321e42c78f0912c c7_8⟩
def c8_3 :=yI 39 0xbd17ae0d4fa904b14a373702b38fab85b02ada71fcd88487c8786d008131a7829b5ec916df83bb92090fc452d3f56ba317bb4e57ca5bb885068a39686d4ce77d24ac27d04121b9d4e6984c494ab07ee0c5315b0157e1b6f99296b04546dd31e3c07e20dd7f1da182e0b40c5a64ad5262c81102faea45f976efbbebbfce030 (.i 10000) (.build [.i 0,.int .u64 0,.i 0,.i 0,.i 0,.i 0,.nils] [(0,1,(.c (.i 4))),(4,1,(.t 33)),(5,1,(.t 34))])
def c8:AFn:=⟨3,39,[.tmp 6,.tmp 7],yB 8 0x1da1d5b8829afa5512c c8_3⟩
def c9_3 :=yE 46 0x55c85456f7417b1a065ccb4bbda32d642ba8d1335cfa0ae26451b768a96aff9c5e2f77e2feffaadad1512ccbaf201929b3d68d8f4d5354a43d6ab01174d32348c (.mput (.leaf (.int .i64)) (.t 41) (.t 42) (.t 44))
def c9_4 :=yH 29 0xb271e9e169c885b1551b95f25d14853b3137996cb87558c884b242f09676187499d7451c17a4dda477e889c8bd0a8e2cf7208d3afe6eb17234695150597b6bf9ee25a6517186c3da30bc102ded6d5f3a5d8455783b12c (.i 50) c9_3
def c9:AFn:=⟨4,46,[.tmp 8],(c9_4)⟩
def c10_1 :=yA 37 0x31fc74756be283ee244a31f3a27c50aa5a86da9b484e2cf662409af95b89a2e2f662481f1ced1d07d38fcf3b586ed68daf4ec01c549aac226417938c352b10b22a2968e8c47a3d3e1d0e7c0e775a6a82397c4d7dc2500f632bcb68e3dfec721331fbab1ac595be169eb35a7962822cdd1bc2c865a331e6526f1a21341aaceb5cd3351c
def c10_2 :=yB 8 0x2217d17ab37aa74e1df517e38a960a2ed35862ddacce10 c10_1
def c10:AFn:=⟨0,37,[.tmp 0],yB 2 0x103bac263cea2774e3029506cb53768909c c10_2⟩
def c11_0 :=yA 9 0x1aebe21b02ce4dab1f339861c3bb438837a150de283e101fb87934e10
def c11:AFn:=⟨1,9,[.tmp 2],yB 3 533019414684 c11_0⟩
def c12_0 :=yA 10 0x602b2922b49ea73661b742c7a2cd6f4a0c21679fb6a805f3d32e5c224b34e10
def c12:AFn:=⟨1,10,[.tmp 2],yB 3 532661096604 c12_0⟩
def c13_3 :=yA 29 0x2de30d4499fdbb429050e038029f390fe31df6140fadb868f4654f38986b707f30026b2dc8d26b13321feeee2d059ff50fea3f235cc033dce65867f6f84a522d9b0a3000310b6c774231706f5ceedbd7588ac4beea21692ab8e469a281c06105784f6adaf642fa222e47c04cd7fcf064e10
def c13:AFn:=⟨1,29,[.tmp 2],yB 3 532661096604 c13_3⟩
def c14_2 :=yA 21 0x106ddf2d4132dbf36edb106e65d8f7a33df30282c3aabfb3635c1a0fb6e6737ace384052168f1a5a3136e2c199eb47d20b1f5bddd66437feb90b5cae8fdc14d2877220066ecacd75b90
def c14:AFn:=⟨1,21,[.tmp 2],yB 6 0x1fae9f0b903e663a0cc8e488c612c c14_2⟩
def c15_1 :=yI 11 0x7a383b2ebb66d76063cb059075764df37107c5d288759be22eceddc15d8dbbfa9ecd4d0 (.i 120) (.build [.nils,.nils] [(0,1,(.t 8))])
def c15:AFn:=⟨1,11,[.tmp 2,.tmp 3],yB 4 0xee3f9ac8fad12c c15_1⟩
def c16_2 :=yI 26 0x3ba4990a2855765572b4d4c1230b0bfac4e72b4ef50dfef4e223b661aaaa91a584b0bcff0362343e138d398e5a97f9224af2b52563c (.nili) (.mkIface 45 (.t 24))
def c16_3 :=yI 40 0x9002934c0b749e8796efd3b607c69c71d86867a6973e8f5ac8ed3abd79b3a94eb1218596369b55ebe1d6b9821d0c0dcd581d08cdc24891a1f6cc (.nili) (.mkIface 111 (.t 38))
def c16:AFn:=⟨3,40,[.tmp 6],(uF (fun a b c=>jA 13 0x171065d9114d4fd3b7c1018cd0bd279d09c 1 0 2 [a] [] [b,c]) _) (.nili) c16_2 c16_3⟩
def c17_4 :=yA 57 0xd8e49254e121452aeb1c1f000efafc74b09e0f2c7e9e32805ca662983ffa2b3dbe9f7e23855f020414ef4f023a1e334c3672a38bc61bd08b379f81d46b8c14664e7af7eb5df975ad2231fbabfd348586e8dc012799999482b2f4a625c4c00dffd741eef6cd39bc247232754a7b641772df37befd0
def c17_5 :=yB 30 0x2928f3f6b9bcc5b2b6089e59813cfbaf5ae2432e1c05a493bcd85051537553418d1797d838c391bde3fb262961d57d9f0a45f748b7aa193756860e64e499ea3dee51cbf29882e56ea3e571dee616a34ccffc5c4351c c17_4
def c17:AFn:=⟨4,57,[.tmp 8],yB 9 0x1ea6b1cf4c12109c c17_5⟩
def c18:AFn:=⟨0,3,[.tmp 0],yM 3 0x119018f8aadaabbcd2d109c (.build (List.replicate 32 (.bool false:V)++List.replicate 32 (.i 0:V)) []) (.box 64 (.t 1))⟩
def c19_3 :=(uF (fun a b c d=>jA 32 0xb4352197277e6d3785afd07cd1aa85d7e5638e5c62e35e03aa00067466529e103cb32983cc7934349218c6377eee1074380a3021376cd50d7efcc9f5f3d207e99ae211e86af11b1a70d6c0262dcdd9b8c9a9fcdf4ae770e6d86c3c5e910 0 4 0 [] [a,b,c,d] []) _) (.eq .ptr false (.t 10) (.c (.ptr none))) (.eq .iface false (.t 13) (.c (.nili))) .mkMap (.build [.ptr none,.nili,.map none,.ptr none,.ptr none,.ptr none] [(0,1,(.t 24)),(1,1,(.t 25)),(2,1,(.t 26)),(3,1,(.t 27)),(4,1,(.t 28)),(5,1,(.t 29))])
def c19:AFn:=⟨3,32,[.tmp 6,.tmp 7],yB 8 0x1da1d5b882a3489512c c19_3⟩
def c20_2 :=yA 25 0x1f2df22a435725c903f398d5daeaf6812635fd2048284f7efa3f5916f5ac61c0aca9132fc4734730f4b21ea01c973550a12c64c6604eb3044694f7d484e04681a1c36140e797e294f5bbb5ac
def c20:AFn:=⟨2,25,[.tmp 4,.tmp 5,.tmp 6],yB 7 0x1c2e621d6ba304310c11bc c20_2⟩
def c21_1 :=yM 66 0x2bb1f2b446c920b440821320249aa7a68e7159e76f142dc28a3480025c92687654e6f97804881350526dffd50239b54508a999e4cfb01503dd951033b2420c832b0b504fc82730ff16b36a8bb76e3b8b77c6fa79c5781f13473893b31fe130fac6a42540eb98dc73e17efb89b4fbd91bc (.eq .ptr false (.t 54) (.c (.ptr none))) (.eq .ptr false (.t 63) (.c (.ptr none)))
def c21_5 :=yB 72 0x5282c6330ee8b264e9a68e026ac956e5a972d67a14c57587fe3d8c87e68a1123e84223132eb6a70c98ed4bf58f24d6a85c512c05f1e25317cd0139968c04d63ba46ad5af65e85a331f70a272a674d8cd2669779ae4fc237cd0c53e0501af0d740e1c80b261e327306512613cfabb5cd256544151ba0478e4c174347c07c4b8e563c c21_1
def c21:AFn:=⟨3,72,[.tmp 6],yB 7 0x17d6b927192d09c c21_5⟩
def c22_3 :=yE 51 0x7400172efc7b829004734bfa005a569e87a7e6fee752cabb1f7f3415cae635e7fe830dc798a0b738e0db0e10fce2b9100151f68a6f9a94bfc4f25ff81b0499fe29ed793e382b84ba557daf8a188107941bbebb02cdadaf4a3e61a9bf9c64e600f057d2d2616bd108225dbef91b595b920c146a8916a48810ee5d877d18705f214b13fc (.build [.bool false,.i 0,.i 0] [])
def c22_4 :=yB 20 0x2736fd8e3657d13cb4d6cb730ea38c09a679953b68fcbd5d49776b5ac1ff808e2f524a6dcf7df841d23e2b1b85df332b7eff63c c22_3
def c22:AFn:=⟨2,51,[.tmp 4],yB 5 4789558483587228 c22_4⟩
def c23_0 :=yM 12 0x28acf3629c132e18fa91427e983a6c4f35b1616f5ac (.eq .ptr false (.t 3) (.c (.ptr none))) (.eq .ptr false (.t 9) (.c (.ptr none)))
def c23:AFn:=⟨1,12,[.tmp 2],yB 3 532422217884 c23_0⟩
def c24_5 :=yG 51 0x40725082e6875527a2c9ad6e3862bd8dc115d0e403155ca1377e3d1ad9c638aeb2653dbc2b1f7949b5d77d66b321cd09008d8636b30e280970fda0feacd6b41f166e056ce8b3d1285bff69b26eb71ed892eb49e2206870bdb17a7b11e3e41829a03ba162ecd3e99f6764658e551b213a44c3ce97ed5fd0b3ea1232a5c5df9354c0e8cb9d6e67492f86cd97b12aadb4443676cc (.int .u64 18446744073709551615)
def c24_7 :=yF 66 0x1de30628658e8be6edfb6c76713325ea10282de0a198efa37cf35899110d3d8c4d68706530d4656958259365deb1c561bd31cb3822672b24d6b8b6494b58973dc50a24ed42acc10aebd44b16677ab1ce808586cf796b9d9794736bb94d534c57e757512c (.build [.i 0,.int .u64 0,.i 0,.i 0,.i 0,.i 0,.nils] [(0,1,(.c (.i 1))),(4,1,(.t 52))]) c24_5
def c24:AFn:=⟨3,66,[.tmp 6,.tmp 7],(c24_7)⟩
def c25_2 :=yG 26 0x1e607235a488db4e0fe58720b36ebbd9f9970006886324d14bb18dca801e63c4ca72ab972549ae03be1db189cc500619e38d62fa8a67f091e1030458a18d98ead2aa8c90070af2aed13fc (.i 20000)
def c25:AFn:=⟨2,26,[],yB 4 0x35fccc64a4709c c25_2⟩
def c26_0 :=yA 9 0x38583d281518ef9e1f6b4ab64c309f285e147044909c
def c26:AFn:=⟨2,9,[.tmp 4],(c26_0)⟩
def c27_4 :=(uF (fun a b c=>jA 40 0x30d0afc964df5629701bb258b9ef8e0735fdd973a042f62d5e2c3b289ebe3959137f0b04fe868608062df945a6b6100d54fa8e7867d8d7e364f150a68e0710884133a979207501e15bddcaad2742fbe06711c28dd9b3f7f8c1e2c8dbee01157bd380242faa5e5fc23cc0e8296fec8173b98e9b21ac93da3b55cce0ad9a82a0b4b84af684c49cee04a76905fe312c 2 1 0 [a,b] [c] []) _) (.i 999) (.i 180) (.mput (.leaf (.int .i64)) (.t 31) (.t 32) (.t 33))
def c27:AFn:=⟨3,40,[.tmp 6],(c27_4)⟩
def c28_2 :=yA 22 0x2170b85086b178cd32659dd9c62b2136cce431d121f3ca81b0bf146b8ae3f79db608049bb1d24da73a45fab047f5aff11c6c4ad4b4b067e7c097c733cea2be97d3ffcc15cd967f78011b10e918875f9e29b598429159e6d546a78cce182d99eb581fd4d0
def c28:AFn:=⟨1,22,[.tmp 2],yB 4 0x478b5ad0581f49ad09c c28_2⟩
def c29_0 :=(uF (fun a b c d e f g h i j k l m=>jA 19 0x58d8a68634dc674ab2c42d5a3ea63945c6154b199c8332c6d7c954500d88e5f990e1628e5e2d8a63326dee4ac9d9098bd329a7f152a844de93be7ff1dbb78e29a7874e61f254b19e957eba21cbcb8ff43e71c66e4c50546abc 3 10 0 [a,b,c] [d,e,f,g,h,i,j,k,l,m] []) _) (.int .u8 97) (.int .u8 98) (.int .u8 120) (.build [.i 0,.i 0,.i 0,.int .u64 0,.nils] [(0,1,(.c (.i 2))),(2,1,(.c (.i 8)))]) (.mark (.t 3)) (.build [.i 0,.i 0,.i 0,.nils] [(0,1,(.c (.i 1))),(3,1,(.t 4))]) (.build [.int .u64 0,.bool false,.nils,.nils] [(0,1,(.c (.int .u64 3))),(3,1,(.t 6))]) (.build [.i 0,.i 0,.i 0,.i 0] [(0,1,(.c (.i 1))),(2,1,(.c (.i 2)))]) (.build [.i 0,.i 0,.i 0,.int .u64 0,.nils] [(0,1,(.c (.i 2))),(1,1,(.c (.i (-1))))]) (.mark (.t 11)) (.build [.i 0,.i 0,.i 0,.int .u64 0,.nils] [(0,1,(.c (.i 3))),(1,1,(.c (.i 0))),(4,1,(.t 12))]) (.build [.i 0,.i 0,.i 0,.i 0,.i 0,.bool false,.int .u64 0,.nils] [(0,1,(.c (.i 1))),(1,4,(.t 9)),(7,1,(.t 14))]) (.build [.nils,.nils,.nils,.nils,.i 0] [(0,1,(.t 2)),(1,1,(.t 8)),(2,1,(.t 16)),(3,1,(.t 17)),(4,1,(.c (.i 9)))])
def c29:AFn:=⟨0,19,[.cellN 0 5],yB 2 0x53f55c0eba24d909c c29_0⟩
def c30_3 :=yA 26 0x4b12c4bb517caaf365a3928ef4b8ed12cbceebb677b282acab37c60543204daba413f1a383abaaed052dec4495100f0e9566977bd44745f7852d0437a75bfed3286442403ed3dc9c0e46bf82c4e83e32a55aa4e3a8f06df567e9c0476a240cb09949f6b97151b9fe250
def c30:AFn:=⟨2,26,[.tmp 4],yB 5 4789558881718428 c30_3⟩
def c31_0 :=yM 75 0xa722a7400efba468a97284c89a209ab50882ea0043b7817e87e44c8caf7baefc9bdcfd2a4115efd2f8bc5be3c60442766111607c70b4f7f1af2eb6c9ce32d55764cda6ae3c08c7fea5eecd9400b4dfb774a6302c702c32ae37952523b3a6aa734363cda8ef22273628028314dd6443f6f7d10969e066d0bc1779c0f11def839d3aace9009ec93dff4b9c (.ofBytes (.t 68)) (.ofBytes (.t 71))
def c31_5 :=yB 76 0x19e4fdfb49ed1533c65752b9d8e7aa9abb2b915d02de3c940a9acc2e781319d307abcb4b607b568468d6d6d8c1351032271fd75496173325ec036bc8f6abfcfaaa9854cf4a1d10c7f8075df6ef62275e8e69057c92b47eafd0c7d517e441b50af4cfd5e718cf7a87ab5ebc8c94a4d67dd94d3e85f42f2c3aeecc4486e316e61c35c252e250 c31_0
def c31:AFn:=⟨2,76,[.tmp 4],yB 5 4789558881718428 c31_5⟩
def c32_0 :=(uF (fun a b c d e f g h i j k=>jA 12 0x2ae9ed02028914b2a8035c18a7e4fd6d8c9e3d0c53390d769d6a3665ee09d7066cc 3 8 0 [a,b,c] [d,e,f,g,h,i,j,k] []) _) (.int .u8 97) (.int .u8 98) (.int .u8 49) (.build [.i 0,.int .u64 0,.i 0,.i 0,.i 0,.i 0,.nils] [(0,1,(.c (.i 1))),(4,1,(.c (.i 1)))]) (.build [.i 0,.int .u64 0,.i 0,.i 0,.i 0,.i 0,.nils] [(0,1,(.c (.i 2))),(1,1,(.c (.int .u64 3))),(2,1,(.c (.i 1))),(3,1,(.c (.i 2)))]) (.mark (.t 3)) (.build [.i 0,.int .u64 0,.i 0,.i 0,.i 0,.i 0,.nils] [(0,1,(.c (.i 3))),(1,1,(.c (.int .u64 3))),(2,1,(.c (.i 1))),(4,1,(.c (.i 2))),(5,1,(.c (.i 113))),(6,1,(.t 4))]) (.mark (.t 6)) (.build [.i 0,.int .u64 0,.i 0,.i 0,.i 0,.i 0,.nils] [(0,1,(.c (.i 3))),(1,1,(.c (.int .u64 3))),(2,1,(.c (.i 1))),(4,1,(.c (.i 3))),(6,1,(.t 7))]) (.build [.i 0,.int .u64 0,.i 0,.i 0,.i 0,.i 0,.nils] [(0,1,(.c (.i 4))),(1,1,(.c (.int .u64 3))),(4,1,(.c (.i 1)))]) (.bslice 7 6 ((List.replicate 6 ([.i 0,.int .u64 0,.i 0,.i 0,.i 0,.i 0,.nils]:List V)).flatten) [(0,(.t 1)),(1,(.t 2)),(2,(.t 5)),(3,(.t 8)),(4,(.t 9)),(5,(.t 10))])
def c32:AFn:=⟨0,12,[.tmp 0],yB 2 115988926620 c32_0⟩
def c33_0 :=yE 8 0x97181ddb1483dc310daf60ea68fe0a697dc80c68f073dd106732334e10 (.eq .slice false (.t 3) (.c (.nils)))
def c33:AFn:=⟨1,8,[.tmp 2],yB 3 532661096604 c33_0⟩
def c34_0 :=yE 8 0x97181ddfa0b65a59bbc280a0367cee9492480c68f073dd106732334e10 (.eq .slice false (.t 3) (.c (.nils)))
def c34:AFn:=⟨1,8,[.tmp 2],yB 3 532661096604 c34_0⟩
def c35_0 :=yE 8 0x97181dda95315253d5d498b368fe0a697dc80c68f073dd106732334e10 (.eq .slice false (.t 3) (.c (.nils)))
def c35:AFn:=⟨1,8,[.tmp 2],yB 3 532661096604 c35_0⟩
def c36_0 :=yE 5 0x3b77274a7a440d9e890f65461d27bd60109c (.build [.ptr none,.ptr none] [(0,1,(.t 1)),(1,1,(.t 2))])
def c36:AFn:=⟨0,5,[.tmp 0],(c36_0)⟩
def c37_7 :=yA 98 0x3b83f97dfa9cabc7c886bfa7079929b6b5cf37f73005a364a47454fd3b72ddf5735d1dabf0ee4245dca6322696ce1e3b7b9342da5b59035a74afd2d2346f6b2da61e741add99bf2f5cedc01f475164f35f11083d8effa1b261d8323cae10d2ad46ec5f6cdfc63e840baf16920e8382eb505a4d2cb23c9e5655b770919701305fb55fa2c7a00422ce98f07b5f9cdc312c
def c37_9 :=yB 125 0x11c81f0efc808f52aabb937f6704ef47ce3bd5032d62c2b0757dfb9a0d4e3471f71e658925edf0f95c80a7ff69cb41d272ebb58b657c45c3dc707cf90a7f23c36755b4b8c22132e1ed75e44d2f38b8e11fa0edfbddee8225921e3823eebb8644d01289215b037ebb2b17fb9bfc8a37d19422f8d41a13e7964f53cceb609fcc2f7c6c3f9d38b12ce2ef9eb0a9fde28fe7d1b52012f4e10 c37_7
def c37_13 :=(uF (fun a b c=>jA 205 0xa8f2e41c6c8c4748bed8743c939de440eb51955794c2f8cd3329eeb05f07c88f7a352b5a6c993f6bae404537735410f00a1ff32782283825b9339a82c1467d05b76fe5954ef075abda5b529ce8a53c657fb941491c3d4792c6cd90c 0 3 0 [] [a,b,c] []) _) (.ofBytes (.t 190)) (.ofBytes (.t 192)) (.eq .bool false (.t 196) (.t 197))
def c37_20 :=yA 274 0x200f04d6d4919a0680a96aaeb28edc8ed921fb9ada77be6b021a57accd53153b18d5e572aa4b0bbfad82d5ed3486b388022ab8c02179cb7a16ba0b49e4af36e8f8efc634096f6f9ab0ed807cfd73f6520f217ef312c
def c37_21 :=yA 238 0x117719dc315c103a7f90902c6be37e7836977a59c76c0cbe3833b01ffc74ffbf79a5cf07af21d8d0cd903c37aa2f9446377d8e8545a6a4d033b39c1d970d85ae7d092a4c20806d3738743a70b18da902a38273874217b4d6add2fbe0cbc150440cb9914093bc77952a66c61a2fcac6975c
def c37_24 :=yA 162 0x3831a7105cedd63e598b88295254ceb885e270497bcfb514c046602b5c6d818293223b5edd8fb8eab54f1db9d40eb80fb4f66a0c141d29f9c65fe319ae5231d016b828efc054ef56afb94414fbc65e585ef0639edd201f4235626dd8317f838473bb5b6d7e961e9df45e604e7e847aa35adefa8e20e8dce4a5e82497ec
def c37_25 :=(uF (fun a b c d e f=>jA 256 0x9a0bb155456d350fdf92d56c1696d96271c24fbe5c09711cd8ae3968f47eb7ffa10aaffdde84015b2f0652351f0475e99b4d3fd97af4cef5d6029c9e3e52df48d9187c3912f902940c9d70bc4d04405077871347b93605a780889c473ae3c51e75e1108c74dd8d8437d5b9bb746bb130d3b739dcfb2459980143848916a48490dc3d10ccd33088bdebb407d6f44257cf0d36e2c3c70a26034d0de3f0a582e5a790053c512c 2 0 4 [a,b] [] [c,d,e,f]) _) (.i 6) (.i 7) c37_24 c37_13 c37_21 c37_20
def c37_29 :=(uF (fun a b c=>jA 289 0xe8f0e7751a420638d5e41c85bf6f9eb841c6cae46484d31801b74de496c8032d0b2a4983d2f2ad17c1895b4e3611a7bc53e3b9539ed8f412b318b9b953883ac5f5a96d2b4eb2e0d61b52b44b5e261c2592e84353b12a2aaf56a9d31e73a2285d660f5274d151d513846a93a6103880c771a8361d52bf9148ea4130e51d90c203170a46c9e239faa384aa8f796cf83a4bc1f29775334aeeea0a88e37052f825654e36dd9faf5758f63d25f35985fb41a82512dc 1 0 2 [a] [] [b,c]) _) (.int .u8 1) c37_9 c37_25
def c37:AFn:=⟨2,289,[.tmp 4],yB 5 0x5bbfb6ebb2a21cd12c c37_29⟩
def c38_0 :=yK 11 0x1ee2d2ded29a8dcfa006fd639dce1ce9e23df6c5616f51c (.i 2000) (.clo 82 [])
def c38:AFn:=⟨1,11,[.tmp 2],yB 3 532422217884 c38_0⟩
def c39_2 :=yA 19 0x48d6cf32540517b972ef323930bb5c0fd213b1dea2672e6367427f91b3993dee008acf6eab006f4d463baffdb1fd4a4196ef5e680823b3be08ce2bbbc5528f070cbbd01eff3e9e009221114b3c9436d3379cc7fd4d0
def c39:AFn:=⟨1,19,[.tmp 2],yB 4 0x478b5ad0581f49ad09c c39_2⟩
def c40_5 :=yM 70 0x4b26624359d8618d08629500879d748ee4e94046db3d9d645c84c52a3b6fb707fcf6d41aa2203600b9ed461ef035c1fca5d6f499c53d24a14c39d8c86900c01982d4c7a89b6a1befabd73fc (.build [.ptr none] [(0,1,(.t 63))]) (.mkIface 197 (.t 65))
def c40_8 :=yI 27 0x4a0346588161e0b1e3ef6b335121a13536fb7fb6b595e162289759cec9ca5c14a9b9c24b41b9d78f6414cff51a205f45b64511e4ba8fb01b11df0fc64e092d8a69271581b5ff2c51bc (.i 256) (.eq .ptr false (.t 14) (.c (.ptr none)))
def c40_9 :=(uF (fun a b c d=>jA 54 0x1d770410933e60147dd6ea4003ad03ba160a0840ff3c6bd81f4bd6e6e567f328d14d6b7ab7acaab5f603e3c8b2ce5ccb3ce62650359ad18ab214a8ac6c7d709178988ff14af43fe0c3dc15badd97c1678eea9f43363a2f0001edbee8f790ee85db96cf11b14445f2a5ceb8bc4fab801f36c 0 3 1 [] [a,b,c] [d]) _) (.build [.ptr none,.nili,.ptr none,.i 0,.i 0,.i 0] [(0,1,(.t 27)),(2,1,(.t 28)),(3,1,(.t 29)),(4,1,(.c (.i (-1)))),(5,1,(.c (.i (-1))))]) (.build [.ptr none,.i 0,.ptr none] [(0,1,(.t 43)),(1,1,(.c (.i (-1)))),(2,1,(.t 47))]) (.mkIface 191 (.t 49)) c40_5
def c40:AFn:=⟨3,70,[.tmp 6,.tmp 7],yC 8 0x1a576e82a4b37c2a3489512c c40_8 c40_9⟩
def c41_2 :=yG 23 0x4bed2f2e108d22cb6ff71ac1f10c184309f6c3ff956f4bef2b46c351c386064629abaa93d4869609e3e368288531b6d1652e5f13410c987e1f4d76f49e0d1856de1f78501e0722be2887fed20a4fce71066614818cba5c30ef39f28ca733fbb51c (.i 181)
def c41:AFn:=⟨2,23,[.cellN 4 4,.tmp 5],yB 6 0x109d2484b01b5c7ad3671112c c41_2⟩
def c42_0 :=yE 19 0x2ef64665e54fc8abc61a55e220b29b46b22c60e428c6285f6f774f6dd3691c7de27843d6cc (.lookup (.leaf (.int .i64)) (.agg [.i 0,.i 0]) true (.t 13) (.t 14))
def c42:AFn:=⟨2,19,[.tmp 4],yB 9 0x1282eddac86a396a72b8c19ecba75f0eae5ea7044909c c42_0⟩
def c43_2 :=yE 61 0x619d54714970302555d35762d93418971c0f07002bd21dc3e8a09da6951a4582ba0affc6ba4d150c47a8fc72f945e4b44dc8d4a389ea7b5754e8fbeaac0bcaa735c93fc6e2dd4ab882de76d0de099d1aa207fd7fc0c03eea39f77f2936ceb6c943679a6f6d2f4551d68ef6e307c30471d306113b80b682559a64edd962a5e7d1e6917302102dd279783bd6c3ed7d752c3055cf60aa6a238410 (.invoke [(45,301),(111,321)] (.t 47) [(.t 36),(.t 45)])
def c43_6 :=yB 82 0xc2fe576d29f656f9210fcfef6a83a9cc71e506bf736d8ee954a92ae151969aea06e353d2ba21a4f98463a80e0d306aa024b0026d8a09757bf6820e91e7bb1fe49232f858570d8a6c42f31be484e492325aebcae5c95a722626fefe550e18ff6a8698a3de5f643dc36d80d99deac66e8a1e9872bc3f9a22ca3ce10 c43_2
def c43:AFn:=⟨3,82,[.tmp 6],yB 7 0xb5ece925ebe2dd0512c c43_6⟩
def c44_2 :=yE 29 0x25bafd6a61db00eb36830f2661839951868c508ffc472ee39ccb82fbc11d8cc6bdcd011c926f5181c6db66f86187bea193f9ed5599f3116709fbc8c5b3afcedfb53c2d518ecac41678686c4b5fbc87e32fc2d3d2aa2d4c109c (.mput (.leaf (.int .i64)) (.t 26) (.t 27) (.t 28))
def c44:AFn:=⟨4,29,[.tmp 8],(c44_2)⟩
def c45_0 :=yA 9 0x1aebe21b0bfe0df0cf559d4ba3449dc55b4a237b283e1d257b0d34e10
def c45:AFn:=⟨1,9,[.tmp 2],yB 3 535049883804 c45_0⟩
def c46_1 :=(uF (fun a b c=>jA 15 0x47ad6c06a19cbc0797bbdb01b17183482c800b42d99e414c9a169890429f4c2e4ea48d2ad6233dd6b5ce910 0 3 0 [] [a,b,c] []) _) (.mkSlice 1 24 [.nils] (.t 10) (.t 10)) .mkMap (.build [.nils,.map none] [(0,1,(.t 11)),(1,1,(.t 12))])
def c46:AFn:=⟨1,15,[.tmp 2,.tmp 3],yB 4 0xee3f9ac8fad12c c46_1⟩
def c47_0 :=(uF (fun a b c=>jA 4 0x30f83c1e80f706b40b3266909c 0 3 0 [] [a,b,c] []) _) .mkMap (.build ([.map none]++List.replicate 128 (.nils:V)) [(0,1,(.t 1))]) (.box 129 (.t 2))
def c47:AFn:=⟨0,4,[.tmp 0],(c47_0)⟩
def c48_0 :=yM 5 0x9b8407b858ae3833cdd602dc .mkMap (.build [.ptr none,.map none,.int .u64 0] [(0,1,(.t 1)),(1,1,(.t 2)),(2,1,(.c (.int .u64 18446744073709551615)))])
def c48:AFn:=⟨0,5,[.tmp 0],yB 2 116227805340 c48_0⟩
def c49_2 :=yA 19 0xca5e25c2f9ff8df21630575d7ef1ce863eb90e6e0d88304b9951a88e548bb56f815166d318234a2bafe8641c31bc
def c49_3 :=yA 32 0x1f16603551b03ab35cf78e617cdba2eeb98fc25cd1123dab8e9ffacde09ec914424620b591c4779d65c2c6ce7b43807586182fc82c29f498aecc05a90503b9857c305cb148c
def c49:AFn:=⟨4,32,[.tmp 8,.tmp 9],yC 10 0x20ed4a2354600f42c31bf912c c49_2 c49_3⟩
def c50_3 :=yE 29 0xef1ec0078a20619b2598fa1f15c8526fe03334692deb464d358121ae4961e2eb3b03d8fefb433da80c57d86f790d91e4f1c65b3421386b5e512dd9a5768c9481edf333544965bed1866d27cc88df9019a89237cc30bc43eb8690a7cfae0a8e4a8f460d4225a2a2e262a204dc0789794563411bc (.build [.i 0,.i 0,.ptr none,.bool false,.bool false,.int .u64 0,.int .u64 0,.i 0,.i 0,.ptr none,.bool false,.bool false,.int .u64 0,.int .u64 0,.bool false,.i 0,.nils] [])
def c50:AFn:=⟨1,29,[.tmp 2],yB 3 533019414684 c50_3⟩
def c51_1 :=yE 29 0xcbd007afe866d25979685191987ec297f6a4a30c3529ab3b4206263e6ef43b34364a1072cff07c03b8a48734d33b188fb3e81644b3d3b63a4f1501fcc0c9e97ee800d1725106234779d76bd6a8fcf60c0450244ce4ce3991bc (.build [.bool false,.i 0,.i 0] [])
def c51_2 :=yA 48 0x65bef6d184778fae1fe07114497a031a70cd173815e1e82de383a9c4e389715e717bcc61ff9bb6cc2daaed8717624c4d390db07c4b4be6056ef94de91bfb050d3263c6c
def c51:AFn:=⟨2,48,[.cellN 4 3,.tmp 5,.tmp 6],yC 7 0x8e302c0e1b468cb7e4ea210694c391bc c51_1 c51_2⟩
def c52_3 :=yG 57 0x91691a1832b1d1960b3056bfc33f82a5f3196f1ae6148662424249117fa42f94ae4360878ceb9f0cc5721542eb601d038a23886c6f34ae505cd1842ec8def7c5a648094fa126eed645e2f2be390d133b8e4f5a19244a6681cdd18ae1fb966f436217ed67de0fef150590de9ff748c (.int .u8 1)
def c52_5 :=yB 27 0x1f3b5b8c9b1c4229789ff805109cfefa38fb425520504227d47b670e70cd7484af8903ecaee42b606528dc32f674d86d3223001dc01afd7868e6910 c52_3
def c52:AFn:=⟨1,57,[],(c52_5)⟩
def c53_1 :=yA 22 0x4a978e14774a27f8aa1ef2c3cdf1f5131094cdd8c2c83d0c8905cdff7b04119ae63c71ce89c839a14955176b28e185221de565a396916cc
def c53:AFn:=⟨2,22,[],(c53_1)⟩
def c54_0 :=yA 9 0x1aebe21b02d67f65ca2f40fc0046000837a150de283e16cfa6c534e10
def c54:AFn:=⟨1,9,[.tmp 2],yB 3 533019414684 c54_0⟩
def c55_0 :=yG 23 0xebb5c8ac7611974dc9631e3be5b8beb8341fc92f890f3b9cc14be6ede8fafc48f96225258ecb2493249b3abc (.int .u64 18446744073709551615)
def c55:AFn:=⟨2,23,[.tmp 4],yB 5 4789558881718428 c55_0⟩
def c56_0 :=yA 11 0x1016fa09b2261f0f20d41771103311ae59462679c1fe067111bc
def c56:AFn:=⟨2,11,[],(c56_0)⟩
def c58_0 :=yA 10 0x602b2926c692b6037fedc24c1bb49daa0c1f727e7ce0b5f3d335ca478334e10
def c58:AFn:=⟨1,10,[.tmp 2],yB 3 532183339164 c58_0⟩
def c59_3 :=yG 119 0xbdb47d6d3f12b169089726054a362bc47036ebcba2ce7a7f3c748d025877a0f400291db165a00b7ff852e17c46bbfd742e357efe0330a1de7cf0b71fa3f2af9b4a1d788bee62d134f1e590998fe83350 (.i (-1))
def c59_7 :=yB 100 0x5c3afb64dfd36f42a37c4ce5b166985c0099967311783ff232cb28e4f92cb880ec259447bc1a2f0efbc5883013d620aed206b573bbb6a3b4fb050548d7ab6108eb1e0965fb0598db4d3e83d4375195b37fa1f83cb527c18388af27e8656db4e43ce1f7a70acd147f5e59d2dab27adacc9f78fcafd82e5d165e723f33c5ef08a4273efc1f27d34a5d78c203a3b2a5b1a0663d85058dbd3fc c59_3
def c59_8 :=yF 66 0xe1caf7aa640ceba6714c22f72597865dee1874cae35c679db9016c26c2308d79ce402817586f57aae643b2a5f68f5f82d165729c50066ed9e3f2f05cee4526e4ae14744bdbc5aff6784f728ef5ddfc685a4b190fc4f02fc97a9eea5688b8266843e97576c5f143dce19845bd8b49fd5c6c (.invoke [(45,298),(111,318)] (.t 53) [(.t 49),(.t 50),(.t 51)]) c59_7
def c59_10 :=yB 41 0x5a451d6db8ff0bf1bb6791016079474fc4cf3955b278481594346d641c75d7b305e11b86a3acbf03a66c56da32ee5073dbe5468a5831e38e3c892523e39b11afcc134fe3b25438f42f33309c85821d83cbaffec90fcc2ba2919b6324c c59_8
def c59:AFn:=⟨2,119,[.cell1 4,.tmp 5,.tmp 6],(c59_10)⟩
def c60_2 :=yG 19 0x3511240824bf9a91920d677f4006b4515d27d48ad547fe7fe94fb476cdf782d314c6a586c49c67a53d75055598dbc352d989e4da603316cbc4cd71eba7c4f5b65c59d36f2b65bbbfcd6707793d52909c (.i (-1))
def c60:AFn:=⟨2,19,[.tmp 4],(c60_2)⟩
def c61_0 :=yM 12 0x28acf3629c132e18fa91427e983a6c4f35b1616f5ac (.eq .ptr false (.t 3) (.c (.ptr none))) (.eq .ptr false (.t 9) (.c (.ptr none)))
def c61:AFn:=⟨1,12,[.tmp 2],yB 3 532422217884 c61_0⟩
def c62_2 :=yK 58 0x2d1c1485df28ce45a0b8dbf1519c7c655b746cc70831cf79c6c5d4860dc7276f9c5e0e1d51fa7cc0c36aa786c541b37a1639d01cc4a1afb9f64564cbba9e83489b075fd44cfab68ad39d971b821ad568fc501cca26984eb68e0c0bbeff3f19c2ee046d208eae90da0a3009be8cb53f9e91311c754156998d7bd59c3b12c (.i 54) (.i 6)
def c62_4 :=yB 72 0x2c3b83afe737b2d92e4bb8797ed859fdd68baea4f389a0bdcb01c77bdd05a316efe28d95f628382c7326c0054525559f7d205fc4d5e0b11117d862ffea38f4cad889c2d13dbf515e520af867169d44ab7c87921fa8d5482d2e1c444b14d16b5c62f6521a6e29850 c62_2
def c62:AFn:=⟨2,72,[.tmp 4],yB 5 0x5bbfb6ebb29e28512c c62_4⟩
def c63_3 :=yA 63 0x6e08216de3ff93cad38ef3b6d8a5ca430f406c944884997e509cd1b8f024e8268138247429734fd084146f95fa1e2ac06ff0c75bacbc62bacac1ef08c989246e19eef2333ce327b7eaf70b84052643047362c4b181a73672156179735873714ebcf95f809f048b383f693513c0e65e572726d13180ad0
def c63_6 :=yH 37 0x77508fecdb06024774e8056c5fda3ce659eb7711b650de81481561c483b27a1eef2e8b5db911f2f25381dbb33766492c2df1018db4217165e384c1ecdcd7085cafdfc911fef76fc82e6b6d636376f166ea47093caf683ff4301bc9e2d80d509b1e9ce96879ab8c7780a9fbdc771ba419ed483fc03ee551c (.i 6) c63_3
def c63:AFn:=⟨2,63,[.tmp 4],yB 5 4789558483587228 c63_6⟩
def c64_1 :=yE 15 0x1ef17ec51cf7b422b90b3cf3b757a497cf242e4ae42170993862cbc08c797b6c911bc (.mdel (.leaf (.int .i64)) (.t 13) (.t 14))
def c64:AFn:=⟨2,15,[],(c64_1)⟩
def c65_0 :=yM 3 0x119018f8aadaabbcd2d109c (.build ([.nils,.int .u64 0]++List.replicate 32 (.bool false:V)++List.replicate 34 (.i 0:V)) [(66,1,(.c (.i (-1))))]) (.box 68 (.t 1))
def c65:AFn:=⟨0,3,[.tmp 0],(c65_0)⟩
def c66_4 :=yA 37 0x3580462cb08169fe47207c4e9ec17631146aaf0637e6673bb65aa0d5490ad50e7ad6debc24ce027c29971c57a8f94fa06eff1134657b2b33db8d058caa6c40dd622cfbbdefb7e3319ebb2f2e6a33d59439132505f881d685475d281a8d4f143a95a3aa69867f9aae4456401e63f6e72d50184e1f3da7631b9a1f5d21739fda51a84af956696272211bc
def c66:AFn:=⟨2,37,[.tmp 4,.tmp 5,.tmp 6],(c66_4)⟩
def c67_4 :=yA 35 0x20359e336dc693b53947a630fa3e28e5891cc2d7f3d575451655a9dfc85c6562147a9f79a11a2ba238761e8ba11b47188c8c098c3ddfc0c5b83c4306c9e851bc676057b9b3a2d2cec7a87abddbc1462fc164fed46329112e1faefab355c02b189c1be3743b16b162fdaf5330fd48af981e09dd94f49811bc
def c67:AFn:=⟨2,35,[.tmp 4,.tmp 5,.tmp 6],(c67_4)⟩
def c68_3 :=yE 36 0xfd1962f193e06a359585b75da50e1f009a2da19c0f5a8338f117ad3fee1f1dba14faa6269f021f49420001a536356341d98d55fecf0c70eb5f36a9ca5921d1c28657d46a233a1d20d4e516a6190a723760cf71842aa00121eb15124168a74290e27f433b2c916ba701460f2039879a2c57ec152efd0 (.build [.i 0,.i 0,.ptr none,.bool false,.bool false,.int .u64 0,.int .u64 0,.i 0,.i 0,.ptr none,.bool false,.bool false,.int .u64 0,.int .u64 0,.bool false,.i 0,.nils] [(15,1,(.t 18))])
def c68:AFn:=⟨2,36,[.tmp 4,.tmp 5,.tmp 6],yB 7 0x1c2e621d6ba304310c11bc c68_3⟩
def c69_3 :=yE 116 0x1afd1818bc32c02237192b13da298ca01d18a8445949b0dc2a334dcb56bcf5001fd716d6022c731121291d0d972e456e209c9b22322c7603f1bcc2ba7bdcbe05f8df24ca2564cd179797424d8afd67487d4d66159a11e2326733feea62d2ca998f217e0d65d4d5c0006e728e7874c4b2ad4671a07d6abccd8e2c01e0fffdbde5357ca77cbe70de376450d8511db00de2bd99dfaeb35d0c750 (.slice 1 (.t 113) none (some (.t 114)) none)
def c69_7 :=yA 77 0x220705a1af903d44a4fa47ed338285e20691200b3c4cc563a7e13c3b034bb2f53578f0fa50f75bd4024a42f0cce6cc18cc1df5377db62f17d204fbd9a97eb39417bf2ffcc5f8e2d92d5ac11e2c8a2916d0f2e83c12f9e14689ad2553216d69cf19845531d0758fb901fcfce657db8badba891800102c49fe4e10
def c69_10 :=(uF (fun a b c d=>jA 86 0x1243fff0692296c151f061703fbcb3af02f04be586aabe718cb9db2f2ec8ba8088b8492091a3de3ddc9aa57569d447c116f37020115df2e624cbbf89df57172212c91dfa251cd61869ed781c2416fce5571e6d601bb877ac529c17da4a9144f036f49554a2caf1afed42599129e0c4875707ae7dda67931928e0c79ae93555d8bd185aec7868d658c945fab6d9190 1 1 2 [a] [b] [c,d]) _) (.i 1000) (.build [.i 0,.i 0,.bool false,.bool false,.nils,.bool false,.int .u64 0,.int .u64 0,.i 0,.i 0,.bool false,.bool false,.nils,.bool false,.int .u64 0,.int .u64 0,.i 0,.bool false,.i 0,.nils] [(16,1,(.t 43))]) c69_7 c69_3
def c69_12 :=yB 31 0x799445d05187085ff405752edbe4c36dbf704a3f5fca57953fd6b87eb0e564fec44acb4df899cc5122a0afe956c7bd781e0476f7e6c6146c23349336d1268200571efd72949e01198c516392dde8ccd9d704fd909f10 c69_10
def c69:AFn:=⟨3,116,[.tmp 6,.tmp 7],yB 8 0x1da1d5b8829fb95512c c69_12⟩
def c70_2 :=yA 30 0x8cf516a101e47d1b6096c6726802971461ba73759b8870ea5982a45228addf6cc
def c70_3 :=yB 55 0x13907eed07b3acc54b1cbdd789a6f0dc3f05bdc44806651782bee9269d54fec288a62b15a22045628027f3f0d9bb05df675d21db7675536f608ce6e2b6de4791ea3d0d0461cb0e8efbd3250d1d94f08ca6f197b63e1696eccda6a08c2ea961c65e5bee73886c26910 c70_2
def c70:AFn:=⟨6,55,[.tmp 12],yB 13 0x2c462577e7edab909c c70_3⟩
def c71_3 :=yM 79 0x27baf4ac463423ae303117c60d69cd515ee525be3efa8fcd50bed3980ca76c2832572f62739431fcab12bb4c283bfc1cda89acce942b9455cda41d99a83f02d1e45d108b2651c28fe4e345d34a4c3ddb8ffb7c1df426747c279c39685ab53e69eb7974f3a651e694d060d27a1799fb7e2e54d2133f82d812f976856c12b22ca1dc7b7eb44f75083be4b6f0713551c (.slice 1 (.t 48) (some (.c (.i 1))) none none) (.build [.bool false,.i 0,.i 0] [(0,1,(.c (.bool true))),(1,1,(.t 72)),(2,1,(.c (.i 0)))])
def c71_8 :=yB 44 0x2da9f9078250cfd6b336f6f27fac65f30fa88dc41d232517cf087f25c1653ea8891da7dd1d5d61e6b8936489474ec6615d56dfae23fc123e9f5c5ff4e10 c71_3
def c71_9 :=yB 35 0xde78c8e6af2b440ce3da3bf696eb73e271b61923548b6030081f8bba5dfb6de74fdecb7b740fd271a989a7c1e5f6d842c5c6de479db9a9a537152e233eeed7b891874f45850067ee77b7142b46176d7aa1b4a3f1f6dd976f020ddfe90ff8e257649c4b1b50124c547cc7c05d5007ab3961cbda63eb39310ddf537a53a89cd9836284be102b7d5cb6ee58cc8c7ca243b59843db9507a82b9a5d4feb56cc c71_8
def c71:AFn:=⟨2,79,[.cell1 4,.cell1 5,.cell1 6],yB 7 0x1ed8e4150c15b12d08a6cce53ba8d0e5724c c71_9⟩
def c72_3 :=yE 94 0x2ee24ddfde898e6ec0d6b06916fb0fb22103f0a8e8209003d304cb92d58f144d00e4509a8bc81bdc9c20fe872997a080c826cfffe78cb14a7da5a0fcafd22a91f59c1fea03da2ab5486998413e92b66b9015d83c80932a56d88b55429867d7e25eca064960442d1fed383ae7bfd782c4755dd7d8a816ab77490272809ea8c773a2a8905399c (.slice 1 (.t 65) (some (.c (.i 1))) none none)
def c72_7 :=yB 53 0x6bff4ee09bc62cfe91fde1bee6def45ae2a061e94a8e422ac6edf604be692e1c913de457029438cce140f710d32db06dae612351e4d5bdfc0d862911cfcc5b2983de6970fcc8597d846c99dc3cee3ec2b43fe742e19f15d801fd23fa589850598509a65c903bc2d9993b4ce3d415fc61cdc836953180de72de4c60a3a5b2fd71b924c7d7966e2eb06781d0637d50 c72_3
def c72_9 :=yB 19 0x2e518340b997861e654869c34acc09a1f16a38c061297c2733695b40836a34707ce038aaaf161a826c1a148c c72_7
def c72:AFn:=⟨2,94,[.tmp 4,.tmp 5,.tmp 6],yB 7 0x1c2e621d6ba304310c11bc c72_9⟩
def c73_6 :=yA 53 0x9e4a852d130a86c4b59541b21feae02732d5d3ced44260b86a45c332f4ddebfa1a8bc94c837e7f6b5c4054da18a6cc7d21e3764c91d3af1ba9d1c63d8bbc29b1f0c298ebf40a1e214c53dbd89f132ad4e910
def c73_7 :=yF 40 0x32ccda81daa74ffe7626d49fd69aadffbc0e2d509b3bbf7e40d68d2f6f423595dd18a97df3e941094fa29a9feb3abef2e8a03979e3d323dbaaa94b0e801ba46a12f203c4585be7abd8021f31b6912369a9aa433e6208fe5b80e37720771767dd426c5b3be29eb968bfc17aca7e0e5ebae0f871fa70140fd7fd0a5f503069cc64f603b1af0779299e46a9edbf6f2eeb4e869ddedc71aa3c09eff7a163c (.eq .ptr false (.t 30) (.c (.ptr none))) c73_6
def c73:AFn:=⟨3,53,[.tmp 6,.tmp 7,.tmp 8],yB 9 0x24420b805a62004712851bc c73_7⟩
def c74_1 :=yA 86 0x1af7a6e5af838a8370126abbf5da473113520668dbf0bb34e0964522340f269d31e62c21c5d0b0629b2fd129741391dfaf94abcd9652f42b52863edcca6b519ee3ce54c43c91bd22bae0cad2a26edac0d98f801113cf31625eee1504757f6d0
def c74_4 :=yB 59 0x96fcef2066c36130a67ba81307d84365eaf88e4b20ddd0cd830a89f2a1d4cafaabb127a06e3994997084e165d92131485f2050b3788d4cafde8d607c5eca703ea45d3ce9d8a43908285edc1e127d5650019c28f1f61e04194b005ac31c053e7e601b65717b220559a5bb79cf344ad192fee130ee75ad9b66628b230134e10 c74_1
def c74_7 :=yB 31 0x820980357005f30f519b0489f03e094493e030fc7df1e7cc1998ab58c34616338920e31171f9222d60ea4a808ae35a03bf164e374e2dcccfc3f1cde127a4ceefe9edddcd225d06390723185cb45417ac387c3919e15d30370d4649a148c c74_4
def c74:AFn:=⟨3,86,[.tmp 6,.tmp 7,.tmp 8],yB 9 0x24420b805a62004712851bc c74_7⟩
def c75_3 :=yG 63 0x6cc111b1d84ec6ee0062428b49ac985e77069dfd9834d4aee39704a8697c68c72041ce94cd70990c9caebc2a2a5af3f64e1cc07a86256639a51552a44acc0a11f485e2840e486eb530c8dbb06735e5fe4555279772405c8f65546b59537135ec4c66fd7c4887ee466def971ff131a60d19d80e7d31cd2dc (.i 114)
def c75_7 :=yB 71 0x357fcc257ef78aa17058526b905e950df49f79b8fffd67230b47a3a6d44231f470ca8e7b07a095a0de709b3c8ec94972e665f0ff3220b35f7fc29c4ff4505abcdd40b9fca44c58d9dfd1743ba87426d6d78453f7b69a4bbd5e67ac463bf7a1342c3480c61e21e5b6792dfc47f7a557160c1bff955f9832da5a647e7d07ce7218476b85d35476d4aba842de253957e8088d5d11a4363c c75_3
def c75:AFn:=⟨3,71,[.tmp 6,.tmp 7],yB 8 0x1da1d5b8829afa5512c c75_7⟩
def c76_2 :=yA 76 0x262b8ebaf43631224efa3a3db4a321fdbbb8e0a20f88ba9283ac867d9198dfe940046fdff02b14bd139e789d1a0a7085dc721a139d63d35a8c0aa22abfd22e1e3d934480f996b854d0
def c76_4 :=yH 65 0x420e73be1d896563a3b546d00d5b18b254e80b94dba3b7fbf621c241bb258cf16f1df359b5745397652d4a7583f5a6cd5533313d692399b81976597a1eee68f165243f03acd755b5d8c69d025891cf5b7082c5c9e339af64bd77186daffa127c02608bb1e26c19704c32aefa119b6fce48711b57690 (.i 114) c76_2
def c76_6 :=yB 31 0x6ded1c47aa0f959309d72a8044d4837113b3710ebebe3902c9fc8fddb9d4fcb52e0da243b455d174c1a8f6fbcaa6d434e4d172826f78ebe244495806713b22870e17e60656bdc28a3b52814dd7a4ab5fabb0370d4649a148c c76_4
def c76:AFn:=⟨3,76,[.tmp 6,.tmp 7],yB 8 0x1da1d5b8829afa5512c c76_6⟩
def c77_2 :=yE 44 0xa99ef0290181b106ca1acd78ecca72c0e536638a0441e97d14901e9f471faa8bb30762d64265d852af36bccbdd6b3a36a99b6d64486f5dce14c92a8764b9edf83c5dad8c675e926efc6b7ce32560c9fef3fd54ca554f7ca167a23bb20d7fde0343f6887f423e66209b9dcb4eccbc9b9b83dd7bae964c3e02c0220bd7823ad1e9803e7a0e2c483670dbb63c (.eq .ptr false (.t 27) (.c (.ptr none)))
def c77:AFn:=⟨2,44,[.tmp 4],yB 5 4789558483587228 c77_2⟩
def c78_1 :=yA 45 0x7a345db1c4fe9da8f42083da81ab4e06b15fe8420ae2ea3e08324fe8dcba581338cc6332b1a85819e486e70068690f68c4ed2bf51069420f6966de704f8a7d1d4d82da3b76b83fd2ab4edaca6350dc57027799e495633200cfcfc429222dd49aa034dd6d7e8e17c75d82084a76c1846033e42796544e4dc81b32cfe57e0b1080d80b630ac06cc9b1948c
def c78:AFn:=⟨2,45,[.tmp 4],yB 5 4789558483587228 c78_1⟩
def c79_3 :=yA 53 0x143b34127a3251deb771efdb7aceffdc5c427029512708c81a531d8091e744e695c0b0f94ee6bd4be962a50bb1166acf680f27ee9429cedfb09012b55ae0c580b264f81bf216470dec791036c3618a4971d909c6333fead968a79ef41f446085331a62a8b9751103244afaec48be211fccd3fac8619cee56d127c738eba2924c
def c79_4 :=yB 16 0x431af43c99ba8048237def2c4a1e7bf1d57ca378795de361dcd270d4c3d5ff328b6b15a65bb48c c79_3
def c79:AFn:=⟨2,53,[.tmp 4],yB 5 4789558483587228 c79_4⟩
def c80_21 :=yA 303 0x17888e0d6b074410225dcf8f6feab568b4dff527f4bbd41a2e657ac9862c5077d1561a2304e0d6a14e0a62564dd034810f592b2e98ba1c16238537a523065b8a7f5ac
def c80_22 :=yE 281 0x338183b77f2f2d3d5bfa47551871e09172f4543fa6104605eb3a69b7c4df5395b84388b0c6b71400dfed97ed6b3265d1eb2a401814e55c9130badf68bd0a2aabfd7b66e144db8538ad2040148ce08b30f5f8788a330e59a5dbf633f91d618c746996b30798900d9828b476c90e5f7a7880e62ee30807d846ba6369350be1e72bc9b65bcb3c749539647406bba9d53b7373dce47f36c (.eq (.agg [.int .i64,.int .i64]) true (.t 274) (.t 278))
def c80_24 :=yA 249 0x1fd1ed2514ce23685bbdc5417736a2902c7ec5a0ccbcef984b18995be85ffe93347d391fef97da2dc3b2f81a43da3633983c051b48c
def c80_26 :=(uF (fun a b c d e f g=>jA 333 0x133c58aa90f25678c179564a653e686eca8433ba76f368ec156423665a41c107b6a4bdb91cca312551904dbf94fac2035dbd299ffe6564f7d7f456b245dc239a4e186d28b1192b9fc3b66956352a26fcdbb56da5f79f43523d259b5009af5942a5c5e138191fd0b8d43584d13da956ec29bede67c261d4a6a1ebab0cc9f052866f0aa3fdd12b2861766dc4084d527d4cb85edbd221d62a15cfffbdb16f45e03004a50d12c 4 0 3 [a,b,c,d] [] [e,f,g]) _) (.i 17) (.i 18) (.i 19) (.i 20) c80_24 c80_22 c80_21
def c80_29 :=yH 231 0x7324cb5770274778def8d511792eee1a9db56c74962c3cf60421dfa0265d096c988e90a60950cdbc7a674c27ed03907b26840551387b57f6cf6082cfb8c8cd43a60a72c466fa75ba5e29af5c4e75a2674fb9a523392970ce9af1c15c1461f0a30b0953734647ae216adb0bac0549b7e6f494bd93ea770b134f33562e138682607ac9f0782f74c261660fc62512c (.i 15) c80_26
def c80_30 :=yA 157 0x330236f8d05d1ba9ab66e7e675241f064b654024f1d9e78756376799aa1b1836ca26d63f9159deafcc935c5290cafa7dcd696348c
def c80_32 :=(uF (fun a b c d=>jA 191 0x18897fd1ff97262939f5a850a3ac775d8e85d53319816b66809e10092ca2bf98de201f5ec39c4cc22ee084d1563b19359b2abbf4382d6f1c22a8bad6b0fd712ddd46199d47800ebf40e65200a367792ec270bd65e9b74ce7da120fd226549e2199c9d83266d15b48ae9e5f8b74fc3647d6c6798f989ed45981d377633b368ddc5fe3895f3494e16e618ca015c29d12c 2 0 2 [a,b] [] [c,d]) _) (.i 13) (.i 14) c80_30 c80_29
def c80_35 :=yL 139 0x3e15edd56308633ca6081c31cfb410d0021c5052983aaaceea06039d7773e1c5d8b55aa835718a31d6acdad8eaaacddeea659d04be4c09bb8ba4d6e76ed29ff573cc51d04f573e84020d17893ebfe9ed3d9fd238e30b55d8c8f0231bf4c7e74f27da1b3874220f43049ac990400794d4e0fb7343ab525196dc6d0c890b14c28970ac9f0512c (.i 11) (.i 12) c80_32
def c80_36 :=yA 67 0x8c8444a6792b4c1d47c10144932e7e2af91526f535d50cccffc16b16676c58441cffce214348556a67afeb85e91c4f7b45e6c22ba64feadde2eac2d3a1be0d37047e51335aea6e884c46a6c356902a109dcd3787c22a609fac3313d499ef8606b2161b98d35375c
def c80_37 :=(uF (fun a b c d e=>jA 103 0x97ae55c356e5fd0b95a2ab143fef1f3b4c3354055fce59b8420f7c2a777191d0cc0515fa42d0ef36fb7a9ff001c213b2ea9cb40eb0a88e66107fd855d185069eac3af0c7fc7b849fbf8ba52cc6b050422622f5224f909bb8a4674a9f220d050285ba5452f585267a50334c2a140161ef8879d6a87dc97b3bdf4f4e028715caa4a293ce08becd1c52c1ccb12c 1 2 2 [a] [b,c] [d,e]) _) (.i 9) (.ofBytes (.t 93)) (.ofBytes (.t 95)) c80_36 c80_35
def c80_38 :=yB 34 0x2782eb5decfb7c0157e3e698d75a446c752d7d31023a47cecdd12c c80_37
def c80:AFn:=⟨3,333,[.tmp 6],(c80_38)⟩
def c81_0 :=yA 9 0x38583d281518ef9e307928a5da04f9e85e147044909c
def c81:AFn:=⟨2,9,[.tmp 4],(c81_0)⟩
def c82_0 :=yA 6 0x2200dd1a0a0fdea0608827a8db07fa746daac1e12c
def c82:AFn:=⟨1,6,[.tmp 2],(c82_0)⟩
def c83_0 :=(uF (fun a b c=>jA 25 0x39ec5a9912293f2069c9969a6b18964cfc43dd71c86b42af0c75884bd353ea159989561e27c40749490a3d88d1e88b81108a241fe12eba2ceef82f0bc466307874f5b4ce50 3 0 0 [a,b,c] [] []) _) (.i 50) (.clo 153 []) (.i 120)
def c83:AFn:=⟨1,25,[.tmp 2],yH 4 0x12f2ae5f7ff2455d8c1e12c (.clo 150 []) c83_0⟩
def c84_3 :=yA 32 0x221754c439794ed977d5ea833ed8466b1b865c6e6595a7e190418da3a98ba75ce30412b9e4731e16538f043015bc521a267d9a81e240d879715280f97bbe40ca3ad8cdc9e3d2462410a2ce4fb26d32e7d7c8bbed6582d9170a528395b2b9869c9c1d3cd17320037197c174e554b29808a6617b77b98253d5674e3a142c6b7ba9912943ab42acad5340d15ac
def c84:AFn:=⟨1,32,[.cellN 2 4],yB 3 0x2a04996addacc8eabc1e12c c84_3⟩
def c85:AFn:=⟨0,3,[.tmp 0],yM 3 0x119018f8aadaabbcd2d109c (.build (List.replicate 192 (.i 0:V)++[.bool false]) [(192,1,(.c (.bool true)))]) (.box 193 (.t 1))⟩
def c86_1 :=yE 12 0xbf78445aad9b5e47d329f5d92631a393cc94795523553d377996bf3a15b3a2b72f24c660f7f71bc (.eq .ptr false (.t 7) (.c (.ptr none)))
def c86_2 :=yM 17 0xcd9a94df06f4550fbee896b2a633a13fc .mkMap (.build [.ptr none,.i 0,.map none] [(0,1,(.t 12)),(1,1,(.t 13)),(2,1,(.t 14))])
def c86:AFn:=⟨2,17,[.tmp 4,.tmp 5],yC 6 0x13c192e1bcab4916ca2112c c86_1 c86_2⟩
def c87_1 :=(uF (fun a b c=>jA 10 0x8c45cfe76bbd394b0b8afb87b36ec705a76066f1b358e0ce2c1b44bc326fc678ff53d12c 0 3 0 [] [a,b,c] []) _) (.eq .ptr false (.t 4) (.c (.ptr none))) .mkMap (.build [.ptr none,.map none] [(0,1,(.t 6)),(1,1,(.t 7))])
def c87:AFn:=⟨1,10,[.tmp 2,.tmp 3],(c87_1)⟩
def c88_1 :=yM 22 0x2ece4018dd45ff9e4d360c8c4c69e34399dfe5510db879e6e00983edcd90b9a35894535c21b94b258784834e2b55c590b5aff9ad40fd27ebbc69abcb46467dd4a2f0851d0912ce10 (.build [.i 0,.i 0,.i 0,.i 0] []) (.lookup (.leaf (.int .i64)) (.agg [.i 0,.i 0,.i 0,.i 0]) true (.t 15) (.t 16))
def c88:AFn:=⟨2,22,[.cellN 4 4,.tmp 5],yB 6 0x109d24861a6e0e249b671112c c88_1⟩
def c89_0 :=yM 12 0x28acf3629c132e18fa91427e983a6c4f35b1616f5ac (.eq .ptr false (.t 3) (.c (.ptr none))) (.eq .map false (.t 9) (.c (.map none)))
def c89:AFn:=⟨1,12,[.tmp 2],yB 3 532422217884 c89_0⟩
def c90_2 :=yK 47 0x2e0319c5f3e6ad68e95a30778139cd5db012afccfaf78339178943f652c8f5acdf569eeaa96e4626eab5ac754e2f828d7fdeed3def4d1914c05e0b2cc4100b3e1b4716b8ea0b2643827f807db1120e1efdb48ec2f9c30eb2600ad95ba3b200ae8ec508a056acee815328ce9cbff760bfc98c9ef26011e9c1f91d2c6d2b75c (.i 180) (.i 182)
def c90_3 :=yB 12 0x12b570f690c516314029d0c629a16aba1a8dd8adc498fa2fce030 c90_2
def c90:AFn:=⟨4,47,[.tmp 8],yB 9 0x1ea6b1cf4c12109c c90_3⟩
def c91_3 :=yM 37 0x496d65405a2bdf3ac31c2fe8974811d153afcb48e4cd4fd559602af718b0a684923670fc8dc401483d485bf54524a1cd46dbcdf41887dbfff652480dba2a7a6e380235385c034db949cf48d08491767280a70c7e14fc4a118becef3ec8d4d64554dcb9a51f42f99b2886d9f31fc9950b2efd0 (.lookup (.leaf (.int .i64)) (.agg [.i 0,.i 0]) false (.t 30) (.t 31)) (.field 1 none (.t 32))
def c91:AFn:=⟨2,37,[.tmp 4],yB 6 0xa125d43d4e0d782e6c109c c91_3⟩
def c92_4 :=yM 49 0x2fe4174164d0da6cc8b50a57b40ca6deb0c1d16b1a636a2bc986b8e05ba8803539c364f6dab197bb9df12cdfca487f39a1ccdf75599064672edfec8f331aa3e0552d1bb5ade00accc3406e3f3fca683515e8b90b8f571ff0e526cbec1db2f59fbada070a6e63590568e6b36d2072f2306b1d87b60bccb91f0839200d42c71df022f3e6bc0e9d265b02d68b4ecc35187fd47d101c7294a7f7edde78c38e910 (.build [.i 0,.i 0] [(0,1,(.t 28)),(1,1,(.t 29))]) (.mput (.leaf (.int .i64)) (.t 26) (.t 27) (.t 30))
def c92:AFn:=⟨4,49,[.tmp 8,.tmp 9,.tmp 10],yB 11 0x2c513520e4448df2aa4891bc c92_4⟩
def c93_4 :=yG 22 0x465b3c645e05016b75724c4e91ad18246bbb05a6138d266716b00c2abf0b492030e6f56363e57e5dd09d768b16f870b986989bac85fffc434205f0611c4d4690cecf3dd0eae773e587330e8bb1bc (.i 180)
def c93_5 :=yM 51 0x1699d4919b6558b66955da0a689ab7c5fa7f21392cfeb952e930a986728a846e227c3e2eb469ed46072f4852b9f4d5a9b85067494c66a2ab11d7e3cf064778368d6348f07e1c1b72d02018ab3f5d64fbe7927115bbde5a9011c9973562d4667c98fde1c85fd548c (.build [.i 0,.i 0] [(0,1,(.t 27))]) (.mput (.leaf (.int .i64)) (.t 25) (.t 26) (.t 28))
def c93:AFn:=⟨3,51,[.tmp 6,.tmp 7],yC 8 0x1a576e82a4b37c29d59d512c c93_4 c93_5⟩
def c94_0 :=yA 20 0x6d87ddecd38dba9fce97c2c1758bdde82c1bf0455e0d26ee912ba4ca89824ea45541baadd48c
def c94:AFn:=⟨3,20,[.tmp 6],yB 10 0x1f5a9fc7e1171a371b9957775639406e313b41346e509c c94_0⟩
def c95_0 :=yM 12 0x28acf3629c132e18fa91427e983a6c4f35b1616f5ac (.eq .ptr false (.t 3) (.c (.ptr none))) (.eq .ptr false (.t 9) (.c (.ptr none)))
def c95:AFn:=⟨1,12,[.tmp 2],yB 3 532422217884 c95_0⟩
def c96_1 :=yE 98 0xfebc955d3059191135c7196c1ce607b48248722bc441210860e2368c2fe65e04499e8c055618ee776dd38e85003dbc407d8e28d999a7c28d7178666d6779cbd43025997256c20b5453b228 (.mput (.leaf (.int .i64)) (.t 92) (.t 93) (.t 94))
def c96_3 :=yB 99 0x519aacdf1663251fc60d2d168db02090f2d20b354389625e48a3a41f0c697aac9461778c411c82712648e031e974f72f8218e22b541cf885e672ef5a8cc0d2543a7583be32eea2e2f7f59e1ce666fb91a18d8ce479526f4819fbf04ee5fd3c349adcc6c20b03a1a4257f9b40745be394de150 c96_1
def c96_8 :=yA 18 0x2999b19e663b1c5fa090ce2663631035222752634f51c8e6660c9f
def c96_9 :=yN 105 0x1ef2b76eaf2aaf88cf7c7d9020727807b69ac671a343660658161c0fa7ae7e56a18170b161e65d264e2edd522adb2712a2cf6e1460de8fb47b8317b25e603060d755928c17d0746be36ef8c825ee53ec88fa661dfb8355d115304450461026a5750187e4bc36573db544872a22d40f2a938244743529de9bb4392d4825b2e4f66b8b7076f2d945390205d3917223bd01277edfce030 (.build [.i 0,.int .u64 0,.int .u64 0] [(0,1,(.t 21)),(1,1,(.t 24)),(2,1,(.t 28))]) c96_8 c96_3
def c96:AFn:=⟨4,105,[.tmp 8],yB 9 0x1ea6b1cf4c12109c c96_9⟩
def c97_0 :=yM 12 0x28acf3629c132e18fae52a8018c4ce24b5b1616f5ac (.eq .ptr false (.t 3) (.c (.ptr none))) (.eq .ptr false (.t 9) (.c (.ptr none)))
def c97:AFn:=⟨1,12,[.tmp 2],yB 3 532422217884 c97_0⟩
def c98_0 :=yM 5 0x3b772757ef97fda602f77c9d0bd60109c .mkMap (.build [.ptr none,.nils,.map none,.int .u64 0] [(0,1,(.t 1)),(2,1,(.t 2))])
def c98:AFn:=⟨0,5,[.tmp 0],(c98_0)⟩
def c99_0 :=yA 9 0x10c95981326613d3471ba96dd402e6dfd2f3fc
def c99:AFn:=⟨1,9,[.tmp 2],yB 3 532422217884 c99_0⟩
def c100_2 :=yH 32 0x461c4ec4b304f566ccc502f9940bb8e5f2acb32b18c5b61f02261f6b1c76cb6afb981076c3e3e36e479a4524be1894d9ff1966b7cceae159ec61790a4923f5a3acc7c2bb9ac2e9d7b43809d21fa8d57be88cd30b09cb63f43f886bc2ab763da7371d9fc75a (.i 1000) (.label 0)
def c100:AFn:=⟨2,32,[.tmp 4,.tmp 5],yB 6 0x8fb2b724723b958fed31bc c100_2⟩
def c101_3 :=yA 51 0x611869fbab388dbbf167e78da3d02706268ccd76c7efd09fce5e2061d70a485
def c101_4 :=yF 41 0x4254d1cb2f9f06cb06ececbbb2e1f765c3792fb85724334b9a22a46909b55e90517e1c23b42116a34dcedf911e4e54e6d90f377d1579c1be01f5895331cde0024767125491d7df1de347794685ff23a9471b357b5bea955ce56266895fb475a0245ede5e24a99532f94ec00adf0fbed55fb7ac466bd3a32aa644197042e1d829fd81f4d4d0 (.build [.bool false,.i 0,.i 0] [(0,1,(.c (.bool true))),(1,1,(.t 34)),(2,1,(.t 35))]) c101_3
def c101:AFn:=⟨3,51,[],(c101_4)⟩
def c102_1 :=yM 14 0x207774792315068591a3ed4f97e9883571624906241b4fff63c14c9beb540ba16187a0de8525a3cce910 (.mkSlice 1 1 [.int .u8 0] (.t 10) (.t 10)) (.build [.nils,.i 0,.i 0,.int .u64 0,.int .u64 0,.bool false] [(0,1,(.t 11)),(5,1,(.c (.bool true)))])
def c102:AFn:=⟨1,14,[.tmp 2,.tmp 3],yB 4 0xee3f9ac8fad12c c102_1⟩
def c103_1 :=yA 13 0x13cd27dc47ea229bdd421dc2dc62c691ed1c6f69c6fca985f5736fab22f7b00a933f1b62b16111b84d338d726bc34853adea2fff6c36bb1712c
def c103:AFn:=⟨1,13,[.tmp 2],yB 3 532183339164 c103_1⟩
def c104_2 :=yA 53 0x22805950e40bc39fc11a057980dbf592dfb6496215e716b4c52d8f49396defad4e96acd5cd73fdcfe199fbc12766c6cea6c52aff8e75c4039b1eceb4a8f09f964297bdf7775ac
def c104_3 :=yF 31 0x5076c6398e99d0adff6ae8499631dfb802f94db2da1a384d046785720311feee1c23bf7399611a8f943d5c67793c4cebba639b4ba91ec8eae7c661d354cdb1cfbbf06bad4468210ad0 (.eq .ptr true (.t 16) (.c (.ptr none))) c104_2
def c104:AFn:=⟨4,53,[],(c104_3)⟩
def c105_0 :=yA 8 0xa4dd65cbb174b1af65c09f2c05efcbfc8ebf6e30d09c
def c105:AFn:=⟨1,8,[.tmp 2],(c105_0)⟩
def c106_0 :=yA 9 0x1aebe21b02c61bf07437efc787308441dda71843283e2977099934e10
def c106:AFn:=⟨1,9,[.tmp 2],yB 3 532183339164 c106_0⟩
def c107_1 :=yA 25 0x2b602c69e43b8ab58fdad56cf53fe139aa7f15bff144baa3041ad59b5367d755b7adf2a97fda2ae1bd8ff8259beadfad1154556983121e3237caf1963c
def c107:AFn:=⟨3,25,[.tmp 6],yB 7 0x17d6b927192d09c c107_1⟩
def c108_1 :=yA 15 0x967055c9ead43241fb57cf5f5982452673604e721ffe765cf1654c9bc8f54894b48188af04ffee788be6c0da3599d7f30412a712c
def c108:AFn:=⟨1,15,[.tmp 2],yB 3 532183339164 c108_1⟩
def c109_4 :=yG 42 0x489e401773b429410419af1f2f7676ad102b1edc72f705cc0b87873327b6a210d0604adfb8b797ed8ba2290547ac7a61b2d94581734e1b10c315d3762dea01af9b421e29ea28b969931b47b98a60f0f1804daad77dec244ad937b0a5881bef68233f07ad9d3a2c03153c3e6d04829350b831fbeb1ee0c1d7377be92e4b60c22e1e2654c092267b6c9c77d70728bc792e114b6f67f6250 (.int .u64 18446744073709551615)
def c109:AFn:=⟨3,42,[.tmp 6,.tmp 7],yB 8 0x1da1d5bb17763c5512c c109_4⟩
def c110_5 :=(uF (fun a b c=>jA 72 0x6a43dc928c46f9102b84043248b98e6575d26a17cc80bcdf138e870dd1481abacf8a5be953ba34d57a896fbcfec03060851a5e131f5de20456984592329e974e44f0d4c76d37d5d0f0736132af5a118c9fe34c4a012697a993ba08a3069490eb0aabc1011525d6409b3cca2f83eb20da8005310921fd59d1209d704cb22acaf58a626b0681d7fb922bf287492a9cfda12561e0 0 3 0 [] [a,b,c] []) _) (.lookup (.leaf (.int .i64)) (.agg [.i 0,.i 0,.i 0,.i 0]) false (.t 61) (.t 62)) (.field 3 none (.t 63)) (.maxI [(.c (.i 0)),(.t 67)])
def c110_8 :=(uF (fun a b c=>jA 101 0xa7491379ae1624364fe0ea4d7e622a5e1c5e0a613fd1a6dd7f61a70baddb39caf39386a43692415391a1cba5f7492a60eb05a3588f2614425df883452091eb9511eb59631c7f04aadf96dc8b30cd2920b1e6de0478ef20d5cd69a638ee49c66c4bc7707d57b9666ea8861d970e19384419e6abaee488478cc168c7b70c26b0d23123f9130f6d4d0 0 2 1 [] [a,b] [c]) _) (.lookup (.leaf (.int .i64)) (.agg [.i 0,.i 0,.i 0,.i 0]) false (.t 94) (.t 95)) (.field 3 none (.t 96)) c110_5
def c110_9 :=(uF (fun a b c=>jA 36 0x523655501551d71e2095408df3a211a4267569001e7c9b212313d6faee750e4ba81beb2252d0218d2c8c5e5bbd8808048ce7d077885e708659a0a66c7887fcaec8449dca8154d0 0 2 1 [] [a,b] [c]) _) (.lookup (.leaf (.int .i64)) (.agg [.i 0,.i 0,.i 0,.i 0]) false (.t 26) (.t 28)) (.field 3 none (.t 29)) c110_8
def c110:AFn:=⟨3,101,[],yB 15 0x35a692eac4b6f9bdc0146a8da20cb2909c c110_9⟩
def c111:AFn:=⟨1,4,[.tmp 2],yI 4 0x3e74bc8c76a4aa590df662612c (.nilfn) (.mkClo 178 [(.t 1)])⟩
def c112_3 :=yF 48 0x468bc2fee28b46a89f51619588940a3a1d6b82590147b828957b2082eaa44cc61c3b0d739ae19825c10764f12dce8f1bd66ab603c77d6e3f5d9183686226b9cf3872e075bc858c4a32e5f42039c4afc23923fb81103bcfe3cce610a8e9129b401ad46cfa2c84fa40c948307a46138ffb8851107e1a45b14fc18dad82ee645e697857b55b1d0a59c97c7ca0f6cc (.lookup (.leaf (.int .i64)) (.nils) false (.t 30) (.t 31)) (.label 0)
def c112_4 :=yF 18 0x5d2102c57b43d0d5ec0a4a5b7764eb8e91a (.build [.i 0,.int .u64 0,.i 0,.i 0,.i 0,.i 0,.nils] [(0,1,(.c (.i 2))),(2,1,(.t 13)),(3,1,(.t 14)),(4,1,(.t 15))]) c112_3
def c112:AFn:=⟨4,48,[],(c112_4)⟩
def c113_0 :=yE 10 0x200e63aa47f8a0a471f77c586c703db9f4353512b9d45480fe634e10 (.eq .ptr false (.t 3) (.c (.ptr none)))
def c113:AFn:=⟨1,10,[.tmp 2],yB 3 532183339164 c113_0⟩
def c114_2 :=yA 27 0xfc59adfe691a4426ac9616b75e2b8275783aeb479812344c2ed8907df2d5811fe97e3ac1de36c0c790f0dfd74d6caf8f44e301768363aab27e0cf917bb9771e88b39fd426fb9ba6145b5ef906338315b275293e55af5108746ddf78ccb1e72f028512c
def c114:AFn:=⟨3,27,[.tmp 6,.tmp 7],(c114_2)⟩
def c115_2 :=yE 31 0x109069c3839694682a6f9fa11246e2331b7ec460b39a592832eab8266fa2521ab288457b3749c2df714ad488c47f4e4037d7578c569c5f33dc4ed03d2297d2f2cf62ad81364e2a624483b2aa19a458136c8892280bdd048ff5ac (.build [.i 0,.i 0,.i 0] [])
def c115:AFn:=⟨2,31,[.cellN 4 3,.tmp 5,.tmp 6],yB 7 0xa38adf88142fa04871de8c391bc c115_2⟩
def c116_0 :=yA 16 0x6c4132b4e25bb487bb23567547f80925cb571647498a71219717db336cc
def c116:AFn:=⟨2,16,[.tmp 4],yB 5 4789558881718428 c116_0⟩
def c117_3 :=yA 24 0xf5e9fe28295e0fc1b13a4d757881530453660291bfc1fc1d92df3001f9af40d6f26d0149c2390a822cc4c25fae99b61efe6691899776433aece3c9847abf78fad356ece7a8fda26f5b3a26cfc530f993b42ff69173811f30ae2c355b495abfdb9d31238d09c
def c117:AFn:=⟨1,24,[.tmp 2],(c117_3)⟩
def c118:AFn:=⟨1,4,[.tmp 2],yI 4 0x3e74bc8c76a4aa590df662612c (.nilfn) (.mkClo 184 [(.t 1)])⟩
def c119_1 :=yA 50 0x29f13506f16ddba1a270a87af46beea32b91fd677e57ff051ac798729a23fd11b8045a00bbb7b8be1d71c7bddf2abc5e1e88b2edb1f327e7124dc0bc11582402ae6184bd367bdeb2c1ccffa7ec8e68d37e94f3e08265fd4841a1619485982fb9893ca5e64ab5b9147f29e37ecd14742f55bc04e10
def c119_3 :=yH 17 0x2edb1d095e7a66c305207733495711ff53012ce4a141d282b4aff143bf54fa606db29bd089fb4379f6a6e08f9bdb3a7a4f0efbb745d24b80b156cf615f043c6112c (.i (-1)) c119_1
def c119:AFn:=⟨2,50,[.tmp 4,.tmp 5],(c119_3)⟩
def c120_1 :=yA 25 0x3814e9431792cd33269798def0e78e50b8340d42591e10e6d88747b26a14ceb0aa0057387ed739924da2a1ebb6c6ab9b52ed9781d56713d1a9195ac
def c120:AFn:=⟨3,25,[.tmp 6],yB 7 0x17d6b92b404d09c c120_1⟩
def c121_0 :=yA 24 0x730400d49687b0d9712c8b5bb5c3a480182c76b5bb2923a5572bbbc4936e1e488b07a0cd755995f849ec5c23fb7783550409333b4c
def c121:AFn:=⟨2,24,[.tmp 4],yB 5 4789558881718428 c121_0⟩
def c122_3 :=yM 50 0x5b663470d2e81cd0ac2410f4fe61c2d2727d41a74b7c1063976425c3cd91db8ca21100f86a8ccb40bcee0c3d224d758561f808d62e2ab1276958a77fc059b30587de2660c96cb59b69417f98818c4d26edf88e7bbdb6afe89e69dcfd86956e3b29e114e126086fc9c113737babe911972472ab6b952e708288f4a49500511b2dab519d6cc (.slice 1 (.t 33) (some (.t 34)) none none) (.slice 1 (.t 47) none (some (.t 48)) none)
def c122:AFn:=⟨4,50,[.tmp 8],yB 9 0x1ea6b1cfa180109c c122_3⟩
def c123_2 :=yE 78 0x99a8e8ec2653163c5c0ba2b60226be84e6de20790c82945f1fe3e94a2e4444f0111fbf49e92892893dbdf62eb9eda5fff8740a15271fc46e473670ab38244fb0829ad7728b2a262794f63e7aaa03df89506608878059bb89c4e0cde986308fdf6fd559f9d8bb6e1182f546ef0649b13e42e2f1e6846d57e92c6f01d1f3db30c37e14be9d9296c64ec67cdb4bb987c (.slice 1 (.t 62) none (some (.t 63)) none)
def c123_4 :=yB 40 0x25d276d364506ab4d0b437dda66171ccc9b0fa36b48714686b590332962213c33669db10b36986c6138d37fb6242e076c0895d617c5035ef305846ec221c40e60ec587717c51ca4f7e36ba87e048c431c5f13c99ceacb1c248910a1cfc c123_2
def c123:AFn:=⟨4,78,[.tmp 8],yB 9 0x1ea6b1cf4c12109c c123_4⟩
def c124_1 :=yA 22 0x3cc9a179698e0c381fc3b0800276c7a266c7b48602d7f089d0287d2cebab0087bd0d6c67acebc77e92e528cbee0ba39d998616d60975f5aeb4308be9148c
def c124:AFn:=⟨2,22,[],(c124_1)⟩
def c125_1 :=yA 33 0xc9f2fb3c3ed50ef1f2d3f371549417e6d43fe54b09988fda8dd7b996d32d361c2fdbb6b2a25d0b631ba44d6a8f6bb7b428a2d5a1e9452c30d7dc538acfad44cfc33bb62595f9f344036595e1d2cee75937bdde756cc
def c125:AFn:=⟨3,33,[],(c125_1)⟩
def c126_1 :=yA 33 0xf7cf6a10e3910f61b48050cf3230073ceb326b01de865114530e9aad865784632268ff4148a13c61bd8128ca426ed4cde009e6c73f3ba80dbbe9ecf51ba587f6483e09933633ee396044e1c1d599c
def c126:AFn:=⟨3,33,[],(c126_1)⟩
def c127_3 :=yG 44 0x7eb3c8dbcc362e04141b08eb9ebe99646b8146b90d972f01d27507097fb0b865ae537d423689a4044f53aa9216d658e8bbad2c88ba62d61fa381b39112f7d13dd76fa7b5e7bb432ca3c32c08d42ed68b09ccd9aa617c6bc89f4e6cdc56f389b8b2546627d0305f0caaf3ed23359f1346f17f3055a61523330f3317477752c36c26312829bfd50031e22ef86ac8eff48c (.i 114)
def c127:AFn:=⟨3,44,[.tmp 6,.tmp 7],yB 8 0x1da1d5b8829afa5512c c127_3⟩
def c128_2 :=yG 49 0x661b6e16d6bd4bcffda44a5590907451f08c69e2695492951499d05d859cfa2ec859241ec1662378730a630d1b668e93e76337b5f2d54eea69fca79664bbe998130cd2236b81caa8c676f5ee25dd6d27efac044523805f111b00adaff3d5d3006c09eb57bb4b8d60d657366aad813967621094339dc23b01b2aba23f690 (.i 114)
def c128_3 :=yB 14 0x3be2c983505493429002fb228195b27e7324064f94eba608abffeed16b1739bb24c c128_2
def c128:AFn:=⟨3,49,[.tmp 6,.tmp 7],yB 8 0x1da1d5b8829afa5512c c128_3⟩
def c129_3 :=yA 31 0x163582b14af67cc42bcc15ca78ce4a5124cb0ea68006b09492227730760f688429d7208d40abda8412082ff3391364a82fd119935b953cdbdefae76de470ff9209cad25fe500a6d495940a6e183e9aa0fe02409c88d9a0dfcc914d7bc8d57b09ca21e5040bcc0a23bb9ec0ff48c
def c129:AFn:=⟨3,31,[.tmp 6,.tmp 7],yB 8 0x1da1d5b8829fb95512c c129_3⟩
def c130_3 :=yA 28 0x25196a1c50f648410c97cfc1ecd3fa1c1e8779aae6362a8f55a98f3cc325548d1b06e4984eefcfb30c7d237a63413bb13d89e067b144c8bb7552f44c2dfe30fc0fdfd80a2bd5ed6efe48cedc11282e492ae390793b3d2614478fb0aa7d6c7743a0e2ddf6c0074a263f7450d7a92eff1512c
def c130:AFn:=⟨3,28,[.tmp 6,.tmp 7],(c130_3)⟩
def c131_1 :=yA 18 0xc76ebc96030c854094f365df2bd17e8e58d6cf59d8b63005b90e625ca2bbf9d8df113365cb2acd8af5eaf925311948c
def c131:AFn:=⟨2,18,[.tmp 4],yB 5 4789558483587228 c131_1⟩
def c132_0 :=yA 14 0x150879035757f0a936ea4fd31de45a8b536ab05c4970da7da2edcbd0e6dd2ac4e10
def c132:AFn:=⟨2,14,[.tmp 4],yB 9 0x10f495699668ad61ad2b1ce5df039c458d909c c132_0⟩
def c133_1 :=yA 18 0xc76ebc96030c854094f365c9c4d74a313c682941c2923b7a6f793f5f7e26f9d8df113365cb2acd8af5eaf925311948c
def c133:AFn:=⟨2,18,[.tmp 4],yB 5 4789558483587228 c133_1⟩
def c134_0 :=yA 14 0x150879035757f0a936ea901bed77c6b35ca361874170da7da2edcbd0e6dd2ac4e10
def c134:AFn:=⟨2,14,[.tmp 4],yB 9 0x10f495699668ad61ad2b1ce5df039c458d909c c134_0⟩
def c135_4 :=yA 41 0x37c9d29c042804c226315cb6033de6a49da35626fe13110bf811fa168f99a7649af63cc793b80b4ebcef87e4e407fa0ade02e768fa89bfb06f21e0b86605ca01de3ef15f63444c2b0dca33d5be9837ec7831a0300408a91b4b1436b177d500f4ed8c265d20bb7cbf9b3cbd7fa86746663aaaf0a4442cbedde9ac2ce4e5c34e1a6bd69a2ce8bae93d40dd6f383bbb48c
def c135:AFn:=⟨2,41,[.tmp 4],yB 5 4789558483587228 c135_4⟩
def c136_3 :=yA 45 0x1a5907895793d17c9ea91b1d8b1097fd5691b814b7723cc7529151145a358777f350f24c0798fb5b5a7cc6c8769b91d0d285c370146ea79882b8fc4478619c98f3db7fed8f5783d058d5b0a163ccec7ceebb7a45a29fc807d8b406de772c36e6ca5da3d0e257108aa37338a5b008536f8d0a0d8756dcdd2fcbaadad378bcb493cb0a2bd7fed3a550f690
def c136_4 :=yB 12 0x12b833cf438fa8307d6c197eaaec7de94881d96f41c8404b5e7be4c7724c c136_3
def c136:AFn:=⟨2,45,[.tmp 4],yB 5 4789558483587228 c136_4⟩
def c137_3 :=yA 143 0xb7109f41aba867fdb1fd839c739fd257473ee64ae0a2e48f20957aa63db307adc3d851b58ee662fecef484ae1ec291c2fc3c5bcca6a72e9ae326da59a5f8e401e8b05bab00bf4d6307baed5c50f5d2945a68e8cadb025cb6d04ba9a6f64a4495b35c1798001da35f469223e6e0b3f9e28164bd4f3c0d52cc38a751c8f318befaff8aa6d7373c6707604f978e9dfe8b0c55580d85da9bc9c8a8
def c137_8 :=yG 87 0x20b32d8a7da757ad42ff828bafd5d3a06052d37f638da859b91e170fe0b9dcae01739d3455b4ad4f485df862cdbc92773c1fbcac360a6a50558b0eaee39b2c0e3783ca1128790094e74cfb349d838859631f1b118959701db2840b9da0bed63c947b227167e2b6eb2350dd777e3a0fa0969dc595d24c (.i 1000)
def c137_9 :=yB 53 0x5594d1cd5fc4cd6cc0a4383126ad82673125e15598b1a6213517f87fc07c618299e897142350e76ebad5019a5a2af393cd794d84e0f505927d800ab836c5c63bc968722659e322f915cf63cfda1e436f03f2af29a3c218f3d20a4751e2416e6aadf43845ec0a302c668c c137_8
def c137_10 :=yC 101 0x10cc6eb6440544c114c5906a51db57f31dcb2782307926ea78dfafaea80f882989d816fd66859e49a888599535948bbf0e007371f09bd6469d41ded8d60260de570edf97a395e5aa0990aeabbfce030 c137_9 c137_3
def c137:AFn:=⟨3,143,[.tmp 6,.tmp 7],yB 8 0x1da1d5b8829afa5512c c137_10⟩
def c138_2 :=yA 149 0xd0550cef6cda82c63c21a226200e406a75c3f46cb5f82f204f8ee95314e0b339200ff7765ae9ed4d2dae7bf5bbc5401bbc58d2d49b8aac5200ef376f1eacb01862722461143777854545e50acfa3dcce81830c9e1e1bfff9e75708e969633eebf50f0df5120ae28d9186771c03eb07b103d43d4e525d590c
def c138_7 :=yB 118 0x202f2144c9758268a297024edf94d2227a3a271a0067097564debdb13d808f790a79ff1a03b97fa7fde14a28bc768517d85cb7f9de359afb2aa19bc71da33f5d7d38ebdff87fed5b2a0b39c6776e57348dae0eec2eb2c85d698bba148927a99d86ae4add3ab5cfbe43a924c c138_2
def c138_9 :=yJ 90 0x8f6baa51c74efb8eeddc4b984e945ba8e236966c9cdd9a03be42613b8f4ef5f9f51f484d749746506e008929043277b65592a5d8cb61febb92935a7004e9b76f65fbdf1f2ee67edaee3ecbc68b85882308c4bfdc4342737d852ec2c79eec683260f1e03588a79fb2a864c48408c6b2a64f26ac4150ae51608da7606fe910 (.i 1000) (.build [.i 0,.i 0,.bool false,.bool false,.nils,.bool false,.int .u64 0,.int .u64 0,.i 0,.i 0,.bool false,.bool false,.nils,.bool false,.int .u64 0,.int .u64 0,.i 0,.bool false,.i 0,.nils] [(16,1,(.t 76))]) c138_7
def c138_11 :=yB 70 0x7075b7ca75dd37f315ac77894c7a13784e979ffe4b3bbea81e141f3b0337db0ca1d2aabc87d4a7ef209aa588d61ffc7c14fba12068eef2bb6af6c251fe66417e477ada03841a69dd8b12ff30bc12067971786f122147e910 c138_9
def c138_12 :=yB 46 0x180e8aa3437e550472b630ea14f7d72be3e42941969ef976c7dfb6fe56dadeeeddce08b96948c4f63ed1824f05ad3169bcfa2ebc8739366196cf1b2083826e1c78a1f403f975b6d25fc79c810d1d3f6f1648687742c734fcc06016ca17bf106a102cd0 c138_11
def c138:AFn:=⟨3,149,[.tmp 6,.tmp 7],yB 8 0x1da1d5b8829afa5512c c138_12⟩
def c139_0 :=yI 21 0x22860a0d8062f934b28b8a94914a436083e82041db06d803e4af59fecf017f74b5 (.int .u64 18446744073709551615) (.minI [(.t 11),(.t 16)])
def c139:AFn:=⟨2,21,[],yB 7 0x35fbc08a7c13635ff176111bc c139_0⟩
def c140_1 :=yG 23 0xbf8408d8a3771b4c163ae9d619c34ac05ae812c59ed38113cbf55a82ccd2df061854b049753c2a3ad406c5248a647ffd5aa576324324bd4efd0 (.int .u64 18446744073709551615)
def c140:AFn:=⟨2,23,[],(c140_1)⟩
def c141_3 :=yA 30 0x17fdf45de587b1e93f849d73bdf4c2616834c211ea7f3a6b4f657a109d061a06d1b1275dfae09daf5a0d414d843dbd9b58f7d3b55133ed15ad77d5e270d69599c771240f59d0019e08e2bcfa59c23fda00a82cea6f126ca08124aea32bbc738bc567d2ca96910
def c141:AFn:=⟨3,30,[.tmp 6],yB 7 0x17d6b927192d09c c141_3⟩
def c142_0 :=yA 17 0xbaf427184b8fc522a6b9f7c337c984af4c3c9077c4d7349efedf5d5b829bab11db93fc
def c142:AFn:=⟨2,17,[.tmp 4],yB 8 0xa45c4dc18cc1ea998cc8f9001dcdf28b3e25932d109c c142_0⟩
def c143_2 :=yA 31 0x4ff85a33272f686736f83384dd4fa705f1cbbfe6c17f8d7d2bcdbb3a40e22c5f06fb0647c3787742957cd881aa322331b7c6e57771cf165cab660d903c9474d5cb0520d42030e2b4fb59a84e0f82cfbda4e032288ce73f275df9a76486acc5e31648f9186fe6910
def c143:AFn:=⟨2,31,[.tmp 4],yB 5 4789558483587228 c143_2⟩
def c144_0 :=yA 14 0x1f90cfcfb58567cc05c44d62807dbe4878e56dee6090b73daba1892146909536c
def c144:AFn:=⟨1,14,[.tmp 2],yB 6 0x3a7f1b01092b5cd6feda0a9ad8e8a7a029f9dd09c c144_0⟩
def c145_3 :=yE 35 0x527de42d6fc4bb8f7de64a3872462f7ab3b8883ccc5c6cbfa0f85cbad515de3acbb805b8f7978ba80ded14a3f5b262d8763e84afe1612b8085fde773a9dbf7eef701b8b10f7c1c20faa28a6f4af6ec36c90747494e2e4e6781dc53e556cea2bcca2e862defd9eff2e615fc8eab8346173c9ffa69678733f0a9e04d1f6a4c750 (.build [.i 0,.i 0] [(0,1,(.t 17)),(1,1,(.t 23))])
def c145:AFn:=⟨1,35,[.tmp 2],yB 4 0x478b5ad0581f49ad09c c145_3⟩
def c146_0 :=yA 73 0x11219648040b69713f9e87cea3e1a416a2941904de3e4a59ceded79ef2dc
def c146_1 :=yB 67 0x63a0ae74f51bc7d7deda58e1e40451d4b5da6c78d71c3f4de9c920ad6058b635ccd769661be7e0b1bb08334c9e3c0ae604d204762cde3ee2173862ab3261adb390a894d24bc2f9efaf58f6381e3ca646232e5d917eeaabfd5f080878447df39d0a8b2eb3feeb1421785858172545317e3c72610 c146_0
def c146_4 :=yB 29 0xee4406f83edb75138cfee8972b72a10311856100057cf6672bc9584c1b10ef07d7a4701c3ccf01260c6018bfd5da911835ada06dd7ad552f1d7b81f413ce1c6c03deea6ab03ff4b513da148c c146_1
def c146:AFn:=⟨3,73,[.tmp 6],yB 7 0x17d6b927192d09c c146_4⟩
def c147_0 :=yA 19 0x28889a551ac283ad5b751d1700d8545e9e6e0d799794ddcaccde6e67d9b4d3a4c003eedcefe9d07194144a999b205d63c
def c147:AFn:=⟨2,19,[.tmp 4,.tmp 5],yB 6 0x163572952108f7112c c147_0⟩
def c148_1 :=yA 17 0xa8d700da95db179e73396cf9e1d0640634ecb359e81abcc3ead4b5d57933d1f2f6d30b3a4bc7e1b381337707133bb48c
def c148:AFn:=⟨2,17,[.tmp 4,.tmp 5],yB 6 0x163572952108f7112c c148_1⟩
def c149_2 :=yI 19 0x9ee3fa1b608e88707de941dcd1ab47506f3fddb1a70479431a63d42c56c8398b777844a3a12565ee542e0d4630ee55029ae175583b316cbc4cd71eba7c4f5b65c59d36f2b65bbbfcd6707793d52909c (.i (-1)) (.callv (.t 11) [(.t 15)])
def c149:AFn:=⟨2,19,[.tmp 4],(c149_2)⟩
def c150_0 :=yG 9 0x10c9597ec92a6e48afd099e050862de8caf3fc (.i 999)
def c150:AFn:=⟨1,9,[.tmp 2],yB 3 532422217884 c150_0⟩
def c151_0 :=yA 9 0x38583d281518ef9e3885749e173289685e147044909c
def c151:AFn:=⟨2,9,[.tmp 4],(c151_0)⟩
def c152_0 :=yA 9 0x38583d281518ef9e38b6829de7e462285e147044909c
def c152:AFn:=⟨2,9,[.tmp 4],(c152_0)⟩
def c153_0 :=yA 6 0xafdb17ccbc8d847e5488664d1fa746daac1e12c
def c153:AFn:=⟨1,6,[.tmp 2],(c153_0)⟩
def c154_3 :=yM 32 0x157c9c723b0ebf13f6891fde93e677957357883f7df072092203184fedbb702a9b8d3f047627110945e002da80b76e07b52bae6a48e6dd212deb1e5a22c1ebf9110d7375cd6f6e47f6824d9990dcd2a9948bc6d90fcda7ba5e16ec6de97fc120fe250 (.callv (.t 16) [(.c (.str [119]))]) (.callv (.t 24) [(.c (.str [110]))])
def c154_4 :=(uF (fun a b c=>jA 45 0x4c55fec69f2082ac936114949b62baca198fdfc7d93c5e31fa617d9109916d3b8def3db63503dbe3b817ec 1 2 0 [a] [b,c] []) _) (.i 1000) (.callv (.t 32) [(.c (.str [100]))]) (.eq .bool false (.t 33) (.t 37))
def c154:AFn:=⟨1,45,[.tmp 2],yN 5 0x3406d368e5e5807ec2a8817ac1e12c (.mkClo 193 [(.t 1)]) c154_3 c154_4⟩
def c155_0 :=yE 8 0x97181dddec2001f91245434d4fbd7c7f08080c68f073dd106732334e10 (.eq .slice false (.t 3) (.c (.nils)))
def c155:AFn:=⟨1,8,[.tmp 2],yB 3 532661096604 c155_0⟩
def c156_0 :=yA 9 0x10c959813265cfeb861d253d68f7535cd2f3fc
def c156:AFn:=⟨1,9,[.tmp 2],yB 3 532422217884 c156_0⟩
def c157_0 :=yK 15 0x3279c557edcd06f595db767c844d2d6d2113dfb80c747acab22f612b3000b0547daf75c (.i 38) (.i 6)
def c157:AFn:=⟨1,15,[.tmp 2],yB 3 532422217884 c157_0⟩
def c158_2 :=yA 27 0x17da885166c8ffac6240bc5d8c35b9b1c396e1066c238a58ec2fb4a27bffdf59bde45d0889bba0b94a6f33ad6e82d52fe7f9ea6041fdd21ea49657e45a200694e39190fb4ed546b68c16f325e6f2fcb9577d1efb6ce2952db90
def c158:AFn:=⟨3,27,[.tmp 6],yB 7 0x17d6b927192d09c c158_2⟩
def c159_0 :=yM 12 0x28acf3629c132e18fa91427e983a6c4f35b1616f5ac (.eq .ptr false (.t 3) (.c (.ptr none))) (.eq .ptr false (.t 9) (.c (.ptr none)))
def c159:AFn:=⟨1,12,[.tmp 2],yB 3 532422217884 c159_0⟩
def c160_3 :=yE 65 0x30e3cf4e01704c9a6a2cd5452b2b09a4d669593a403c9a09d7614ba9b40d8a4eea1fa0c8899c391881e013fd799307e7a2f55b5f2a4084f1a858a39e57c6f2ff863e43ae1f134a7defac545cc7b315a109f630e3cbac3d4ad165c2dd910640263016ced7148c (.mdel (.leaf (.int .i64)) (.t 60) (.t 61))
def c160_5 :=yF 36 0x1428e12695f7cf23c98ca884b77b7cb663167d3761b45631c4c71c3b5567b0f3026a980425cc2124c0113b73f81c1082ef38d816ee02f65f0408d35636b5fb8b3a2b32d83d389a65ea8bf01dcd14862a01e0fd967c4ec6e67713ac8400ea63004860cc6910 (.lookup (.leaf (.int .i64)) (.i 0) true (.t 19) (.t 20)) c160_3
def c160:AFn:=⟨2,65,[.tmp 4],yB 5 4789558881718428 c160_5⟩
def c161_0 :=yG 12 0x18b51b7ed48c65fcce1c192303fc8e327afa30add6cbb4c04c32885c560c065b90 (.int .u64 18446744073709551615)
def c161:AFn:=⟨2,12,[.tmp 4],yB 5 4789563261161628 c161_0⟩
def c162_2 :=yE 41 0x296b9e2ccac62c7d8f7da724eb58799cbfad2ac17a01cf5f7b3662cde6e59cf9140867604baa3424836569dc7ffc9557b58645c009bfd98f07419d8469d08500c69f365e6c91e4a7c0bab87c9ebf07825f53228dc9ba97af5249c2db001e1ded03696de4e460673d2787298a612d33fc (.build [.i 0,.int .u64 0,.int .u64 0] [(0,1,(.t 30)),(1,1,(.t 34)),(2,1,(.t 38))])
def c162:AFn:=⟨2,41,[],(c162_2)⟩
def c163_3 :=yI 38 0x6c0c87991d32f17185206e29a74490f07abb0069ada3809d28b7ce11716a919eac883ebef973245223088587990e5bd6287e6c6a9fb3cbb5ba381b5f8c4af9d9330d0b3009c2cbe40044db8bb9431117edde2a9419da44816c5ba4e3387375efb30e5393cc8345c845aa96e702deff9ae0b8ad9210f197324da1cc5df49f3a140f95f457312c (.i 30) (.lookup (.leaf (.int .i64)) (.i 0) true (.t 13) (.t 15))
def c163:AFn:=⟨2,38,[.tmp 4],(c163_3)⟩
def c164_0 :=yM 4 0x2b874f2bfc1949b41bb3266909c .mkMap (.build [.nils,.map none,.bool false] [(1,1,(.t 1)),(2,1,(.c (.bool true)))])
def c164:AFn:=⟨0,4,[.tmp 0],(c164_0)⟩
def c165:AFn:=⟨1,4,[.tmp 2],yI 4 0x3e74bc8c76a4aa590df662612c (.nilfn) (.mkClo 203 [(.t 1)])⟩
def c166_3 :=yE 48 0x1c4e3b639941ec0bf06b47fdc8cbd70fdec9fdf4e3ee61fe6532e14f50135241f703921311c20220b62aae0d82c7d71fd81ffe7ad1e5c9633cccb641c20f3a5ab66b1ee3a66b1b2a39cff2d6c93e2dca33f23ca198875a0e3d6c8007aefd3804fe3f476c02df4f1c37137c5e4c54d0 (.convInt .u64 (.t 42))
def c166:AFn:=⟨2,48,[.tmp 4],yB 9 0x786d36ca26d3ca0dedb919a80f5f039c9afb909c c166_3⟩
def c167_0 :=yE 12 0x7a06da27d437bfc5240a77f6c69429455d39616f5ac (.eq .ptr false (.t 3) (.c (.ptr none)))
def c167:AFn:=⟨1,12,[.tmp 2],yB 3 532422217884 c167_0⟩
def c168_3 :=(uF (fun a b c=>jA 58 0xe39be109433537092b3a7a39fde5cfd406d02cf4f7effa99ff568e399de947c6351696b76142686756c888d7fe6d20412cb7413a13b2cc6b928a80c60367efe29359254c025826f3c5ed19936d46a0c123f48bc71ba9cc05441598196082bd6b0a9d616556b849d2872f71226f75e7d1d98b513fde0ffa96ea91587d21850 0 3 0 [] [a,b,c] []) _) (.copy 1 (.t 33) (.t 34)) (.slice 1 (.t 32) (some (.t 35)) none none) (.convInt .u64 (.t 51))
def c168_5 :=(uF (fun a b c=>jA 18 0x1d36e5883e6236364ac6dfc4d40f5ddb82cc7adf98f95a381751f3af917440b1eaf568ab3a0379f1b3e99ae538b4e6bb748c 0 2 1 [] [a,b] [c]) _) (.minI [(.t 9),(.t 11)]) (.slice 1 (.t 7) none (some (.t 12)) none) c168_3
def c168:AFn:=⟨2,58,[.tmp 4],yB 5 4789558483587228 c168_5⟩
def c169:AFn:=⟨1,4,[.tmp 2],yI 4 0x3e74bc8c76a4aa590df662612c (.nilfn) (.mkClo 208 [(.t 1)])⟩
def c170_1 :=yG 15 0x15497e7d5327ed36424fdf2bce3318d0463fc738893564fdf4f43d5a657ddf541012eb4c29709e13c4adeeb2e134810e4efce030 (.int .u64 18446744073709551615)
def c170:AFn:=⟨2,15,[.tmp 4],yB 5 4789563261161628 c170_1⟩
def c171_3 :=yE 39 0x2711d58091bf64cf40e01e6c4089bf77b92a5aab035236f632aa990db9266f588c71920ec5b554366d67d07827fb9f69b055530d457b67a4970d110cf6d4f29e5a224bf5979acddbeb8df4cbec993ba3c3375841bcd71954b6e2921c9e1dcff97747442cd223ecf48b9489980e30921045c46a002d6201806893bb3005d37d8c04111bfce10 (.build [.i 0,.int .u64 0,.int .u64 0] [])
def c171:AFn:=⟨1,39,[.cellN 2 3,.tmp 3],yB 4 0x54eba62f7879623bdad12c c171_3⟩
def c172_2 :=yA 18 0x52a0a0db45e28fb0b9c7115015d92541b80d4f5098a15cac93e8e848677275a6847a44767633dfeeb87b2d2eb13629d4ac6928aed53de6b1f6fec4aa9161cfc8266a9489fd4d0
def c172:AFn:=⟨1,18,[.tmp 2],(uF (fun a b c=>jA 4 0x768dca63cca3b1b2b2d09c 1 0 2 [a] [] [b,c]) _) (.int .u64 18446744073709551615) (.label 0) c172_2⟩
def c173_1 :=yI 12 0x2643352620b67638a540a57d9e7a2750bfd5e31112406c68b5c9a876cfd96af7f0a1da47d25a97ed46030 (.int .u64 18446744073709551615) (.minI [(.t 10),(.c (.int .u64 1048576))])
def c173:AFn:=⟨2,12,[.tmp 4],yB 5 4789563261161628 c173_1⟩
def c174:AFn:=⟨2,6,[.tmp 4],yI 6 0xe5fb396e23889bd7ad9a4fec438fe311bc (.nilfn) (.mkClo 210 [(.t 3),(.t 2)])⟩
def c175_4 :=yI 100 0x27de15251c671520fc7a6b9923e3cc1b1709753816705cde0f629f140ca3fbba118871eed3f8c5c9142ed7bfad6b21260e6a8569206821ce1003d2a6c1349a285943cb2a11c2ceb634a4c2561caaeca382d6234b2d7eb7d73bd95b56c2335ac (.i 2147483647) (.minI [(.t 90),(.t 95)])
def c175_5 :=(uF (fun a b c d=>jA 69 0xb7a223cc00d9a6d0a7f69639be4c23d8ee855cb7666435848cdee08cab5822bbc149b68fa32c37327eb02b3014d4aaff2a8a232e9baefbada86539d73c8e46ea9aa9914c8a82b943602346a823c176facb3ec41ff0f619c4faa547fc1fdfc8dac89c822d987c40018b2cadc0548de95eee46d555d11b6d25bfb03585b44eaaaf5ac 0 3 1 [] [a,b,c] [d]) _) (.minI [(.t 57),(.c (.i 2147483647))]) (.build [.i 0,.i 0,.i 0] [(0,1,(.t 55)),(1,1,(.t 56)),(2,1,(.t 58))]) (.mput (.leaf (.int .i64)) (.t 66) (.t 67) (.t 68)) c175_4
def c175_7 :=yB 34 0xd31afe354c373ffb1f713d27cd75d537a72d7ef84d3a6391e2b447f40ef363f147b1e5650259a98f22135b458081a38524725a19d812f19cf7403cac9d263ea4c305f417f5029cb7da0b4aa330aaa7fead09c c175_5
def c175:AFn:=⟨5,100,[.tmp 10],(c175_7)⟩
def c176_1 :=yA 22 0xf07b26de773cbfb3bfae314ec9bb7acf6ce3a049df8ec9e169f51940f8753040ac2efa981aac3c9d60cca54c775df8cdb5b768f03c06744aca68410
def c176:AFn:=⟨2,22,[.tmp 4],yB 5 4789559279849628 c176_1⟩
def c177_2 :=yE 23 0xdc2a26e76acc5c32d1ed8f6e8ceca8d404a6dc72f139f3d7929fa3ad41e6972fdb0bba6371b8ba1e751d2ecf04507f851346220cb0d5e0a354f8a0b0f6b8eca3e30355773b333c16aabae4bf837545bf4e587ac12ace126909c (.minI [(.t 13),(.c (.int .u64 18446744073709551614))])
def c177:AFn:=⟨2,23,[.tmp 4],(c177_2)⟩
def c178_3 :=yM 39 0x6f1a66aae6febc1adaacdf9cfa2203916a863e278ea7f54b56c1fce215a8aede9d810b780aeb58036dd130a2aa9969b75d9f2c2eb6f8d88af3daf963366c93ce321e67b0a1357c28b6b20cac562b9512322881f05a2b200ec0d15b2df7b1b27c6232cd6729a6d1d7c0c18f2e61788530a4a6fe903a99141753fc (.build [.i 0,.i 0] [(0,1,(.t 32)),(1,1,(.t 33))]) (.callv (.t 30) [(.t 31),(.t 34)])
def c178:AFn:=⟨2,39,[],(c178_3)⟩
def c179_3 :=yA 31 0x9827ac174b5bc1ea2da21bfa13649a117da35a72df4d2df9e794e4699c9a5acbb95d20a3988d65087883aeafbb8206b474fdc1df6c45a21407fd9c8937bcf12cfe9c47fb04b4a87959d188c008b42c9d5d709fe0fa52fe9e7f6358ab178728f0f16eb74104c23d9d81a3e3c5243c0371881d913775fa661dc65c396b1ae010709c
def c179:AFn:=⟨1,31,[.tmp 2],yB 3 532661096604 c179_3⟩
def c180_5 :=yE 59 0x2ca3b63bc54595f933be2918d1ec65db37d4ad8434729124fe865676088eb49052cc8cfbd9bba0417cbb09411bb0698161f7a4a4253aa3b10eea51d5424a1acb3018d0d31015807b32b5469f031cc698c2d100bcfd487c10e784269b6664483ea0c4965702f6257f22924a166cd83f123bea3708c091f456b26badd66bca3c722d7f03b18e33098481f002c5623d8cf07dce10 (.lookup (.leaf (.int .i64)) (.agg [.i 0,.i 0,.i 0,.i 0]) false (.t 27) (.t 28))
def c180_7 :=yB 22 0x5f7b9f01f4255355e173b1ecd54adaffda0015a0ca65f31ceadc8a77382499142646b9ba7f2aad0e39c28f9e11040501550c8e17a3f42d911fa8edd0a05ce10 c180_5
def c180:AFn:=⟨2,59,[.tmp 4,.tmp 5,.tmp 6],yB 7 0x1c2e6244b8d68d5a0c11bc c180_7⟩
def c181_3 :=yK 56 0x9dee269ffe32500fa408799d4f3209d275766285519901aa45eaa7ef986d93d1e34b2cb32200c83d108e3fafe7644f4bd34d77b0e22a9aa7cd094ab0ae00635a9a8f7f043937e8c9977b8f23c3f7018e1f33dc0825dd57df9765b8ae602a480ff6d96b377ec62ff3f466f282fe40ba7d3eb318d25db37b4beb8c716fd5500f3e25773ae335b5faba6103191b5828bac5b (.i (-1)) (.i 14)
def c181_5 :=yJ 59 0x528f43e52d588070b06a2b23f2eea46f562864ed6754a050f85749eec1b40b4b2862fab7d631ffac309c97e67c103e08ca136d619905deddd1d13fa59f9fd1d36c (.i 6) (.build [.i 0,.int .u64 0,.i 0,.i 0,.i 0,.i 0,.nils] [(0,1,(.c (.i 3))),(2,1,(.t 10)),(4,1,(.t 12))]) c181_3
def c181:AFn:=⟨4,59,[],yB 8 0x6fc58672f0338f7cc512c c181_5⟩
def c182_3 :=yE 50 0x11c6d9fd62b093fe3b328dc57ccceac8fb3e1a767779a6a16ab6e65c2f0116b1fada8ee0e63dac6282635b0a44b02c2211f92672b158b1fab6eab36879ad2c96d9680170a4e8d79681ae89d1629ad8c359f9fddb7c521908af489a26a728e417d16ba40816d1ace6ce9faef9b712a23a00141419da7838888ad0 (.lookup (.leaf (.int .i64)) (.i 0) true (.t 20) (.t 21))
def c182_4 :=yF 16 0x52ee93521f52f170e0efb04ef390f7a47d2911cfaf8f8c8776e7f4e3ae664c6910 (.build [.i 0,.int .u64 0,.int .u64 0] []) c182_3
def c182:AFn:=⟨2,50,[.cellN 4 3,.tmp 5],yB 6 0x80e21394325e34c59d2112c c182_4⟩
def c183_3 :=yM 31 0x4a1c6ee6b46bd77e999f7793309bb3bfc9341bc2c057baef7803be5850c33f16d75a593103650bab939467f4240923bb1a845e40eaa26e8c85142bdba2b59fb49d5c573f4355dbf7eabf9bedf374f3f2bf0b664648710bef91e24a7c8c2a73723440775832a4110f954d0 (.lookup (.leaf (.int .i64)) (.i 0) true (.t 14) (.t 15)) (.mkClo 224 [(.t 3)])
def c183:AFn:=⟨2,31,[.tmp 4,.tmp 5,.tmp 6],yB 7 0xd4bb56581676ddd1a0b48f924c c183_3⟩
def c184_2 :=yM 23 0x136ad150efb704da1d30f78de3c5ee86e8215b86015e7522fe91d4dc0b4d8fb1abc0338320df39de676190b6b53eea5625c1226b3741550eadbce9af88f64f8dc716f72613b2a5eaf00698c854877f5d4f2dc (.ixA 96 3 (some 3) (.t 8) (.t 9)) (.callv (.t 17) [(.t 18)])
def c184:AFn:=⟨2,23,[],(c184_2)⟩
def c185_2 :=yA 70 0x2eba7cf2e478bd320c627857f824b0b3e547ea3992a7e62e6b0126c9fba21612b63f4e51c642f658f97477f9b9f3a12104bb1a27f4ff7e1fda31d38fdd26331d44c42e572d4f5044029c3f799872152bdd57bccafa30ffba9bd1e6897ec
def c185_3 :=yB 40 0x1a036f5802b9f1f028a449ef2b032fc29b2dd704f1f8ae5f688b926f0cca9d44806516337f88e2d8f4299e6cd85f2a249ebb6df52eface555a1b65c0a0799cefa47f68db3f57dd22198e37578c4cab718b80fe8cb74e5786f8032819a61f10 c185_2
def c185:AFn:=⟨5,70,[],(c185_3)⟩
def c186_2 :=yA 43 0x1405424e7f5ae194421867bc62d3f59f9bbdf2b3742dc58da3f1ffee0d60df9133534946010c9d7aad8b0d2a76f0998b4449fd37944c612161ba2ccecb814a2f9eb99ccf6be2021f0e9e0c2229a7bbf5913f03c4a5697cc9762d2121f92c39c0a038b574f2aff40b998301b42718bd47db3cb4fd70cd7fce030
def c186:AFn:=⟨2,43,[.tmp 4,.tmp 5],yB 6 0x16357295216ca2112c c186_2⟩
def c187_0 :=yA 29 0x56300b845d8eb822324c75321c4dc28db33b6f254860578a487908139135a58c1512c91ceeb7a4c8d90d6ef7fce084a8e8b866c11760a30abec79a93e1c
def c187:AFn:=⟨2,29,[.tmp 4],yB 5 4789558881718428 c187_0⟩
def c188_3 :=yG 73 0x319a2c8106f52ec6d74e0dccb92d30e923f02f901c9469a1706e4c965bbee3c89abb06221ad3b32ca2e058ae6cddb5b75ea07026742a8c4949f04ba0f438c37c573ed1e539c6ed8c5f4b17eddbeeafc46fe3dabc (.int .u8 1)
def c188_4 :=yB 42 0x71d7fbce47169f46c86e3ae545322cb94876ee49f96c858eef23d60eaf066394b46975b9e9838784bfc6b249e903f45b109662f801eede067529a37ca93021a46a92b00a1c6322f3b3402e468b6ff7ef5474ca7149d4b3291cafeb9b03abb1bc c188_3
def c188:AFn:=⟨1,73,[],yB 9 0x3f056b5a4b1fafe25cc30367f8aa4e250 c188_4⟩
def c189_2 :=yI 36 0x349129a51fbf74ef702f807cd67979d6855cda5f86ef580d6b46bf056e085aab873de0bfb61fc74f79b32a69a5ff90d6c633f595f51b7a92c0b87a3255a4b0f1893f7e2e3fc7344a461bc5d4814f695424eee08dc8f7fe87fc392299ed467f3603db3ad6c406271ce843144dfdb90 (.i 2147483647) (.minI [(.c (.i 1)),(.t 30)])
def c189:AFn:=⟨2,36,[.tmp 4],yB 5 4789558483587228 c189_2⟩
def c190_2 :=yA 14 0xdf08d689ec6bacddcdf1f2fcfb932e75b48239aca5f21d4c56642aa4285fee09b1bd
def c190_3 :=yA 28 0x22bb7926c7ae266f2cc7479b698ee64d3e03c9bd178e29a88a6ca9491cd4e90aa52c6c6e291c421978ce59dbadf3ea83d3d0208a79cd78f65bef8f9d6f102179e12bb92784100ce0987fd613341db1653ce10fd4d0
def c190:AFn:=⟨1,28,[.tmp 2],yC 9 0xc87bb31a2df93a58c65f21a5f8f072dec5166a509c c190_2 c190_3⟩
def c191_2 :=yI 19 0x27b8fe86d823a21c1f7a5077346ad1d41bcff76c69c11e50c698f50cef1ace0ed621dab6bb6be5b0641e11f7debb919809b5a603316cbc4cd71eba7c4f5b65c59d36f2b65bbbfcd6707793d52909c (.i (-1)) (.callv (.t 11) [(.t 15)])
def c191:AFn:=⟨2,19,[.tmp 4],(c191_2)⟩
def c192_2 :=yI 19 0x9ee3fa1b608e88707de941dcd1ab47506f3fddb1a70479431a63d42c56c8398b777844a3a12565ee542e0d4630ee55029ae175583b316cbc4cd71eba7c4f5b65c59d36f2b65bbbfcd6707793d52909c (.i (-1)) (.callv (.t 11) [(.t 15)])
def c192:AFn:=⟨2,19,[.tmp 4],(c192_2)⟩
def c193_0 :=yA 9 0x25c6d2998981efc1e19e08a5c5cc3586ae3d78808c703a709c
def c193:AFn:=⟨2,9,[.tmp 3],(c193_0)⟩
def c194_0 :=yA 9 0x38583d281518ef9e3f3a5e979f832ba85e147044909c
def c194:AFn:=⟨2,9,[.tmp 4],(c194_0)⟩
def c195_3 :=(uF (fun a b c d e f=>jA 15 0x10cfe5ce4de74b0056b67386b8492d57a82c8a98fe86f9ed712ae73068e026c391510ce1794dbde1e450f0ab01050b0a3ba7b68abece95ac5c6318d7ae07f8cfabe3f41f6e39589297b28da3ed6886cb785188b219ef7419b6d775757fd2b58e15c25e8bc4d4750 6 0 0 [a,b,c,d,e,f] [] []) _) (.str [119,100]) (.i 6) (.str [119,110]) (.str [119]) (.i 7) (.str [110])
def c195:AFn:=⟨1,15,[.tmp 2],yB 3 535408201884 c195_3⟩
def c196_1 :=yE 12 0x3e74f9865516d1e62928e0bd51a3112d9242ce602497b3a2aabcbf824226e9bce32b68722f004f1a2ae0b68785caf109c (.eq .ptr false (.t 6) (.c (.ptr none)))
def c196:AFn:=⟨2,12,[.tmp 4],(c196_1)⟩
def c197_4 :=yM 66 0x1d5a252977f0f6792a3bc51c334c04984e4f3f20243b2bac66353edd1d4aa912148fc3db98bdeecac42159c8b4768d40dcb5aa4bafc2c8d06a822fb175b0d70579bddee976c1fad99cb04381bc02f42f7acb6ba384ed9f1c8194b403623d7bd3c010445185b9d082dc7ff1afa806cbc642faa78f0b65a6eca9fca031d70ffb2c274f906f7bc98951c (.slice 3 (.t 43) none (some (.t 44)) none) (.mdel (.leaf (.int .i64)) (.t 51) (.t 52))
def c197_7 :=yF 32 0x315b0816f1aa0b61b56920d2cefa282fd68836e63df8874af3075fe3550eabbd2ec6d87f5282b2e1751be278eeb4b7a4518cd04c0735e410da3092cc41971c4dae7794d67f56f7d40fb50781c193510128f6b554064c7a151c (.lookup (.leaf (.int .i64)) (.i 0) false (.t 23) (.t 24)) c197_4
def c197:AFn:=⟨2,66,[.cellN 4 3,.tmp 5],yB 6 0x80e21394325e34c59d2112c c197_7⟩
def c198_0 :=yE 11 0x56c4ca59f02d280ebe0e28efc6d04133fc (.mkClo 231 [(.t 3)])
def c198:AFn:=⟨2,11,[.tmp 4],yB 5 0x5bbfb66e8e704ad12c c198_0⟩
def c199_3 :=(uF (fun a b c d e f g h=>jA 33 0x3f3e50432389f7926e3be33389b8d9c4079f123655bf22e2488f8a912e9fb740c6b4add97320375d1d988879e2d08f5b59649fa0347ed9eba29153ab6f03975f587c630213b84e22d3f933b5fb614ef0398055e1df36c 0 8 0 [] [a,b,c,d,e,f,g,h] []) _) (.recap true (.t 0)) (.slice 3 (.t 8) (some (.t 9)) (some (.t 10)) (some (.t 12))) (.recap false (.t 17)) (.slice 3 (.t 20) none (some (.t 21)) none) (.slice 3 (.t 23) (some (.t 24)) none none) (.slice 3 (.t 27) (some (.t 29)) (some (.t 30)) none) (.clear [.i 0,.int .u64 0,.int .u64 0] (.t 31)) (.recap false (.t 32))
def c199:AFn:=⟨3,33,[.tmp 6],yF 7 0x3da4c7d7b709c (.recap false (.c (.nils))) c199_3⟩
def c200:AFn:=⟨1,5,[.tmp 2],yG 5 0xb0e6b2ad1b4f4040467ad9aee509c (.i (-1))⟩
def c201_0 :=yE 12 0x7a06da27d437bfc5240a0879de457dcd1d39616f5ac (.eq .ptr false (.t 3) (.c (.ptr none)))
def c201:AFn:=⟨1,12,[.tmp 2],yB 3 532422217884 c201_0⟩
def c202_4 :=yB 45 0x1f9c2a9b18a6aae6eccffbba22d61c86b1f999d5981339cfc363837fc1ecfc88b4ecd725ddd44dbaaa14d39d58809ccf05d847828967c2420407c92b27a4632c1cae6b01623d246480e8e1084a35f981c6ccb5ccbb398b77eb83437879995b086007457258226b1250ca472d7761e2407edc0f44ffb4989a5d271fd3937c0e9586b7ecaec42cfeabf07c2602cb8a3165f0de6f7ed3a2f17d5a (.label 0)
def c202:AFn:=⟨2,45,[.tmp 4],yB 5 4789558483587228 c202_4⟩
def c203_2 :=yM 20 0x1dd18fdd07632213b64d66d78c82e824ec891c7c3c6bc83317cf9b50408326f4db668c84976a4f404bc1178e69385b34ccf1f03dc36783a8bc0a78a2a603940fa137cbab86925a6509c (.build [.i 0,.i 0] [(0,1,(.t 14)),(1,1,(.t 15))]) (.callv (.t 13) [(.t 16)])
def c203:AFn:=⟨2,20,[],yC 6 0x28408e462d438fd990403a (.label 0) c203_2⟩
def c204_1 :=yA 15 0x86f97b8dc13c8db86a1e6666b9e775c33896aae3778993f0b1188c604776689fbea079f4c49f1e65b90
def c204:AFn:=⟨2,15,[.tmp 4],yB 5 4789558483587228 c204_1⟩
def c205_2 :=yE 25 0x1c596d4d17ec5dd80b2427045ef802d27d324e96db956b58eb464e5efcc75b3e30a91ae8ad760686e1904687727173005348e7624c8d037bba086a7a938c8b83cbe0accc83319243865b16250 (.minI [(.t 7),(.t 9)])
def c205:AFn:=⟨2,25,[.tmp 4],yB 6 0xd6f0a7a432590d786760109c c205_2⟩
def c206_0 :=yA 15 0x7e25e1593efd4e32ccd096d4f4c80aaaa28aadb3669363c
def c206:AFn:=⟨1,15,[.tmp 2],yB 5 0x3eb06c7e4af3f7725e5340e22ba867d4d386509c c206_0⟩
def c207_0 :=yI 8 0x1290ec49185ab4ce522a1666af3a2065a1531f24c (.nilfn) (.mkClo 233 [(.t 5),(.t 4),(.t 3)])
def c207:AFn:=⟨3,8,[.tmp 6],(c207_0)⟩
def c208_1 :=yE 32 0x2f985afd143502616708ad7c3a04336a43c5b6eee806ecd234991693bc100632a5c9e2e5a235fda61196e503ca38ab69a838f7875f25ab625e956e535422fc1dba5d507e564f1d3a9d9681a630faa866b416eef709c (.callv (.t 19) [(.t 20),(.t 27)])
def c208:AFn:=⟨2,32,[],yB 7 0xd049c785d9f7c295790224ae4d1bc c208_1⟩
def c209_1 :=yE 21 0x50101ad98d75522c5482709f5c3f9692c7b44d2735135ddca89a1a3bcd380c8647c0e910324f8f2542b2930a471fba7004683eb5c0cfb6634c48ecd0410 (.build [.i 0,.int .u64 0,.int .u64 0] [])
def c209:AFn:=⟨1,21,[.cellN 2 3,.tmp 3],yB 4 0x54eba62f7879623bdad12c c209_1⟩
def c210_5 :=yE 39 0x1c20a4820fd455be314090d6b57e7005d2a4211048f2cfa9c800397f8c29c87c83b56ffabb7ae9cc42a5f2ac6d44ac139e5720c79433fe83bc674fd9a4ff588bb39a8bc5b05cc0836451f3742d772e57eb20c5073f130b2a69edc835785d40141ae3acf927347f9e357cfaabc023fd7e379048e3d440f586c2d6f29b7f6bbb29502e561d4ec87d258825b2aeecf388501752be577a2c55c3a95ef0dec3f715ff0d5548f90b32dbfb59bdc7ff71bc (.callv (.t 33) [(.t 34)])
def c210:AFn:=⟨3,39,[],yC 2 81082 (.label 0) c210_5⟩
def c211_1 :=yA 19 0x83fadf3be2ad52a1c8c19849cfe0f55ccfb049d0793d5ba68254799372133853e25be8329c318b890803fa7fe386b2880fc70b1c51edd83cc5b90
def c211:AFn:=⟨3,19,[.tmp 6],yB 8 0x17e685f9bedcc16c67a921509c c211_1⟩
def c212_0 :=yA 13 0x2c77619e9f081215c09dfdce63176ca0536a07ee29289351c
def c212:AFn:=⟨2,13,[.tmp 4],yB 5 4789558881718428 c212_0⟩
def c213:AFn:=⟨1,4,[.tmp 2],yI 4 0x3e74bc8c76a4aa590df662612c (.nilfn) (.mkClo 235 [(.t 1)])⟩
def c214_1 :=yA 16 0x12f5ddd256307c73679eeeccb544705a0618524229047e67c8e7a97d1ed3a347c42e3c82b001ad56708950bed69b86b93d613c31b9cb5954d0
def c214:AFn:=⟨2,16,[.tmp 4],yB 6 0xd6f0a7a432590d786760109c c214_1⟩
def c215_1 :=yA 17 0x27eb9840ed400729c7a46c3309a9151af2790e0cffc72047cfdf580449eaf6c5a402f29c1a4e5598ae65b90
def c215:AFn:=⟨2,17,[.tmp 4],yB 5 4789559279849628 c215_1⟩
def c216_0 :=yA 11 0x696ca03015bbfaf6c88847a75f595b1859d7cc37578aa7a7b6ad66d7466e6ff9d5864e10
def c216:AFn:=⟨1,11,[.tmp 2],(uF (fun a b c=>jA 4 0x80f1d7d1006c9f1c2beb156f6e2d09c 1 0 2 [a] [] [b,c]) _) (.i (-1)) (.label 0) c216_0⟩
def c217_1 :=yE 39 0x25fbcf831418f50f48c2c19d910131c47fcfda902b10958af7958e6ee8604025e56e497de0aa0b7d1919001a9b84ff0a6e888169c71b26b170db5b031e3c9a8cab0170e20f944bd947fe506a514c4966cb4347ead1994d19b81b068539a3bede551bfb37cb112b6e98f7bb5ac (.mdel (.leaf (.int .i64)) (.t 36) (.t 37))
def c217:AFn:=⟨2,39,[.tmp 4],yB 5 4789558881718428 c217_1⟩
def c218_3 :=yE 73 0x159fe9473b74d9cbddf7bbb93443fe405df9b66392f4765bd58a4ea6f470994267a70c153c8d1f4c6b78fc63fea8afbc6bb3be525430f9c99ae1a3535a26d53e7787c (.invoke [(45,301),(111,321)] (.t 69) [(.t 70),(.t 71)])
def c218_6 :=yB 54 0x769fb25571832868596cc954d8359430a54c0151ac6f8f7e8f0598dd7e446a03fd65f2b09d8628b65ad6b940d150b373e4d7b6847fc08a961490658fbd604b9b95e87e36c6f6fe2220979f29558e3a0fdc3435a72e721a4f5afcbc105d4248245cd4f36ef83e825da44cd093c4a07a1fdfcb0606d78381fefc09b0f4a77e39a12f4736c c218_3
def c218:AFn:=⟨4,73,[],yB 7 0xa5919fda0aca709c c218_6⟩
def c219_1 :=yG 24 0x14ea0483b00e5b1ed5c844160f7bdc613f4e96c6f303c859ec8797b0c9115b12cb56ab53514a99cdc48dada7ae16b67414e08e64a643e6fe997a148c (.i 220)
def c219:AFn:=⟨3,24,[.tmp 6],yB 11 0x327ef55cf35336d78930e90269f3bec33bc12e200cd09c c219_1⟩
def c220_5 :=yG 88 0x42b9ceca96ce8c5b20c1ea9727b75b4b3187a53539f395e532af3c9afdc778038456b5d2fccdca573475a553b85a88beb3bc708fd972f5354dad0c20420f9758dde547fd75d6a2860cfeeefee620e0d2982c53e2f40883eaa0283615ef7ac194f5178ac7861dad4a28b12c (.i 6)
def c220_8 :=yB 64 0x6f4a84106bfe56e4f26816c1c6a980b3c99406e9209301d7c08fd8d45760ad54f1c814732910bcce191d3af3511101239fc2f8ed860103aee957799e5980b97a4c41ccf7ef95baeb552e1a3107e53f2f7be15b98f772b4a5355dd25007d43976105e3cd2d0954635afb12c c220_5
def c220_10 :=yF 107 0x517f603fe16913dcc7b99055440f80fc556b942ee6bbecfb875126e5cea3d38b4f8e371d83bc984cff3b35219cc114d9a1caae81c55ddaffd02471d68d59a0bcfc3b4e5abe1777c459e20a15666b96e4bf289ef287a7eff310ecf6c7bba69c9e39e5d29921e117efdbba8cadbf55c955cdb8b07d157357078d20a74489d96552a6cf9774a4a32f09013cf1f85404e10 (.field 0 none (.t 93)) c220_8
def c220_11 :=yB 22 0xa68f337b02db6dd1f26fbf1aedcff3c5b518e68d7f6b3de9b5d8eee910 c220_10
def c220:AFn:=⟨3,107,[.tmp 6,.tmp 7],yB 8 0x7e808704c00dd5e1e68c11bc c220_11⟩
def c221_6 :=yA 61 0x5736b6b4f2a8ecbe1eb6e01348bd0d03934cd5322c1c08e34d115ac
def c221_7 :=(uF (fun a b c d e f g=>jA 100 0x12884ce488129baaf5c8a504c451d854bdabaca66983417aa15631f4018b928f4f7a0156f8b195ac04c0c29f8b954ea2b56d5110acf0afc4d0ded28f90dd45c436963b8517f2db6d2ffa8901cd8b0982dfd2acf7ab325640b876ab4bebf921863da18b3c06e5183dda4e6c350c19221b12ae6411e0c28a5aab233a10ffd8299916cb2c70b8d01db6c3aa279940f0b59f71e2a280c070650b8c22f56d64ba82eec102f9bf8ba98d53974262c7 5 1 1 [a,b,c,d,e] [f] [g]) _) (.i 11) (.i 12) (.i 13) (.i 14) (.int .u64 18446744073709551615) (.minI [(.t 94),(.t 96)]) c221_6
def c221_11 :=yA 30 0x513a9c32b4908821fcac8eeb136651d924ffd7de421be7a72b914fcb1bc375246259f77ba120a0dc430101eca9030cbc2ad432fe2bad54df6d02d96241706215ec8af690
def c221_12 :=(uF (fun a b c d=>jA 52 0x163528a97b6f582a1a886cb52103651bbbc89afb1dd885e2818a834f92aa07a9eecde3224a9abd1d7cc81df939b1eb5be13a459d6b65adcde04baaa4dcc17b4e7b854dd2bd11d20575d0da30fe5f06bbe66e48e737ee6c77469332d299e5fd74f4412e2d682d933f7feb57a052ebc870bdb8dce10 2 0 2 [a,b] [] [c,d]) _) (.i 7) (.i 9) c221_11 c221_7
def c221:AFn:=⟨2,100,[.tmp 4],yB 5 0x5bbfb66e8e801cd12c c221_12⟩
def c222_3 :=yM 30 0x1938212fbfd8f422079232fe07232fe01fc38215734054947ec8bc24763ddf139a95351ad39d2be503947095889634a3aef9da1c2d987af3f2ab29076266fec2ae73c4e0d9313c2ce62484e297d82bc61745f86381176a64e7f0cc17a68cd12ce10 (.build [.i 0,.int .u64 0,.int .u64 0] []) (.lookup (.leaf (.int .i64)) (.i 0) true (.t 15) (.t 16))
def c222:AFn:=⟨2,30,[.cellN 4 3,.tmp 5],yB 6 0x80e21394325e34c59d2112c c222_3⟩
def c223_2 :=yI 19 0x9ee3fa1b608e88707de941dcd1ab47506f3fddb1a70479431a63d42c437d842dd60d1c72c9c81e2b8c1a5bc43ff36b88dc84649cd3316cbc4cd71eba7c4f5b65c59d36f2b65bbbfcd6707793d52909c (.i (-1)) (.callv (.t 11) [(.t 15)])
def c223:AFn:=⟨2,19,[.tmp 4],(c223_2)⟩
def c224_0 :=yA 8 0x53da7a87ae865ba3c7453b91c671d525ca6a9dfcfd12c
def c224:AFn:=⟨2,8,[.tmp 3],(c224_0)⟩
def c225_2 :=yA 18 0xfc007e65626864a21402d84ffcb7d8f33783b0320bb93f540d7ee6de08179d20d89e6e3afa24f71fc9d4745346dd6a48d934e5b0490d18384e5376bab406e6b78b7a6273d09c
def c225:AFn:=⟨1,18,[.tmp 2],(c225_2)⟩
def c226:AFn:=⟨2,8,[.tmp 4],yA 8 0x4ca912ac4b72d38573ef5948b54335932d109c⟩
def c227_0 :=yA 9 0x10c959813265b2d157f935baf252e6dfd2f3fc
def c227:AFn:=⟨1,9,[.tmp 2],yB 3 532422217884 c227_0⟩
def c228_1 :=yE 20 0xace9a08bdb53c50a1c327b8dc3d515bc7ff3534bd9aa392f4a3aaf965bae2217c088f61244885548c (.mput (.leaf (.int .i64)) (.t 16) (.t 18) (.t 19))
def c228:AFn:=⟨3,20,[],yB 6 0x7ae38470bdf709c c228_1⟩
def c229_1 :=yA 75 0x52afef3a8d278bea781d37563544febaee5bc049081c9a65ebabab0b278add56027150c31b1cdadfb9b040e70ba07ae76e4b473d7ae370230929dcd6496d5dbc58ced7a4d1400f38410
def c229_2 :=yB 54 0x21afddc6edef83c460828d194f8b10c291dfd4bcef5d0c7cd9b526af3870f27c94f47718ee9ccfa957a139b0c0774b9e79789abf0b5ea3a45d2ce258c9cc71c8d27d58f481d2159f3a2ad8a48fc36300ae4f6d0 c229_1
def c229_4 :=yC 79 0xbc9b846669ee8bc318fb29d72381fb5ecc1a830089ae5bddfa240949157d93c3fca21adb1f9a6363d7e5e31b9850d0370d1642783efe1716650076043d5659005aa7f3d31230bcfecb882dd42e7766ca862ff3a57f6fb7cb67fd5a (.label 0) c229_2
def c229:AFn:=⟨2,79,[],(c229_4)⟩
def c230_2 :=yI 19 0x9ee3fa1b608e88707de941dcd1ab47506f3fddb1a70479431a63d42c437d842dd60d1c72c9c81e2b8c1a5bc43ff36b88dc84649cd3316cbc4cd71eba7c4f5b65c59d36f2b65bbbfcd6707793d52909c (.i (-1)) (.callv (.t 11) [(.t 15)])
def c230:AFn:=⟨2,19,[.tmp 4],(c230_2)⟩
def c231_0 :=yA 8 0x53da7a87ae865ba3c7453b91c671d525ca6a9dfcfd12c
def c231:AFn:=⟨2,8,[.tmp 3],(c231_0)⟩
def c232_0 :=yA 22 0x8303b4672b2b2cae8f3b49455b66f2ff8bb2f49c6d2b0e56565882719a4f3fff923de47a3453c48411d8099e67f2b88e8b9a6e17ffd0675adbd151f7b641ef7906b7a08bf5da425cb8c8998b40b5708b3c7d1a8
def c232:AFn:=⟨2,22,[.tmp 4],yB 5 0x5ec5c974dd7aa61329b1bc c232_0⟩
def c233_2 :=(uF (fun a b c=>jA 43 0xa5264c53cef9c9afb351e5bc07fc588be4bbe0a9fddde840513f80d21ac25b41bc07848b17a9b9b0a2e3282133af682bc76a966f72600cc88ed78ada167bb1e523b97622a6a35af3a2ee10c958d255d9af2bbd24629659178086c8c4b0460228d004da1fbac66f48c 0 3 0 [] [a,b,c] []) _) (.minI [(.t 23),(.t 28)]) (.slice 1 (.t 19) (some (.t 20)) (some (.t 29)) none) (.callv (.t 31) [(.t 32)])
def c233:AFn:=⟨4,43,[],yC 9 0xab6e8906737b7b170117b38654191c2213c3a (.label 0) c233_2⟩
def c234_0 :=yI 8 0x1290ec49185ab4ce522a1666af3a2065a1531f24c (.nilfn) (.mkClo 253 [(.t 3),(.t 4),(.t 5)])
def c234:AFn:=⟨3,8,[.tmp 6],(c234_0)⟩
def c235_2 :=yI 20 0x13d7ac43fd6c49551452bb209eea71d43172c093764b0c3f84167ee66132614cb49108cfeca5c4a2e909d78ab3f2b267211b26a3458c155f6beb31d05e092810df2a37a35cef42de4ced1b8962c179031bc (.int .u64 18446744073709551615) (.callv (.t 14) [(.t 16)])
def c235:AFn:=⟨2,20,[],yC 2 81082 (.label 0) c235_2⟩
def c236:AFn:=⟨2,6,[.tmp 4],yI 6 0xe5fb396e23889bd7ad9a4fec438fe311bc (.nilfn) (.mkClo 255 [(.t 2),(.t 3)])⟩
def c237_0 :=yE 8 0x97181ddc3792c1c6d402df21ad7dabcd2f480c68f073dd106732334e10 (.eq .slice false (.t 3) (.c (.nils)))
def c237:AFn:=⟨1,8,[.tmp 2],yB 3 532661096604 c237_0⟩
def c238_3 :=(uF (fun a b c d e f g h=>jA 33 0x3f3e50432389f7926e3be33389b8d9c4079f123655bf22e2488f8a912e9fb740c6b4add97320375d1d988879e2d08f5b59649fa0347ed9eba29153ab6f03975f587c630213b84e22d3f933b5fb614ef0398055e1df36c 0 8 0 [] [a,b,c,d,e,f,g,h] []) _) (.recap true (.t 0)) (.slice 3 (.t 8) (some (.t 9)) (some (.t 10)) (some (.t 12))) (.recap false (.t 17)) (.slice 3 (.t 20) none (some (.t 21)) none) (.slice 3 (.t 23) (some (.t 24)) none none) (.slice 3 (.t 27) (some (.t 29)) (some (.t 30)) none) (.clear [.i 0,.i 0,.i 0] (.t 31)) (.recap false (.t 32))
def c238:AFn:=⟨3,33,[.tmp 6],yF 7 0x3da4c7d7b709c (.recap false (.c (.nils))) c238_3⟩
def c239_3 :=yI 58 0xb696a140508efe00fa3ac9c5c1bb839604b534eae33126edacdde19bd1c3ccb9755b7e94c47a1531fc61f0eaf7b2b93dee7b436262c8c56344fad840b870f81c1c2124c0fa82a4bb6102d40fc21204eea53a7513a9df461a6fd87febe8cc362aef05027326085e2b11b3e81d44055a3b93ab01ef713c2830ce57a5d0340630227ee8fe1443ff4a167e03e56971d8f6b63d250efd0 (.i 181) (.mdel (.leaf (.int .i64)) (.t 30) (.t 31))
def c239_5 :=yF 20 0x69997f2cf87e511c252621f2e69e1d4a0f714c14bb3308c230e8810f70fca9e1b992e7a7f83d74d9bbe0b4cfe2fbb31018d3fb87cc4e10 (.lookup (.leaf (.int .i64)) (.agg [.i 0,.i 0]) true (.t 15) (.t 16)) c239_3
def c239:AFn:=⟨2,58,[.tmp 4,.tmp 5,.tmp 6],yB 7 0x1c2e621d6bc7269ffc11bc c239_5⟩
def c240_2 :=yE 59 0x30cfeaf7b2767a75c3b3ce1ca8bef3c5cc87a806412adfba352b55f65d25660266d7b22f65406d5607caa36d0ba9a2004183696c1e0d2367c88b26f02bfdc6fa0af64b179a1752ece0d647c8e2d4f067eac346b25dfd4972d8b60beeaeeee8add74df12a1fee8e869182b09b2936c (.mdel (.leaf (.int .i64)) (.t 35) (.t 36))
def c240_5 :=yJ 32 0x26dd01bb81d0951a3adf88cbaa6853e0e3a33ee6390acae27f2894bcbdea93a89eb06b28473c157426f579ae3aa5ac7328b16a0f4b858d1a7be9383c44e6a3460a9b8edc393d8dc0cad20a43591db54cd0e9f344c8288291ab69daf649abcccca6e795c51c9ce5041226e27b99270c5ce10 (.i 181) (.lookup (.leaf (.int .i64)) (.agg [.i 0,.i 0]) true (.t 16) (.t 17)) c240_2
def c240:AFn:=⟨2,59,[.tmp 4,.tmp 5,.tmp 6,.tmp 7],yB 8 0x2307a7d0ffb946b59fee51124c c240_5⟩
def c241_1 :=yE 21 0x6587ac8aa9c7eb21d27cd49a973cff4b593bb615a638da483aad7461b92f20827e4318f546ad4b15ffef1577826e8183d3bb654bd09ab3d8e7202c79676797ce112c (.lookup (.leaf (.int .i64)) (.int .u64 0) true (.t 14) (.t 15))
def c241:AFn:=⟨2,21,[.tmp 4,.tmp 5],(c241_1)⟩
def c242_1 :=yG 28 0x202e75c8e6dacb60968b12ec43d3a40b49d8d0263fc1fb642be203fff3f6151631bc31fb7fc60421408e6e5da4e7520b4a2813b4d2512e5174f80f5bf80851914a76179593b32cc07f75c (.i 4096)
def c242:AFn:=⟨2,28,[.tmp 4,.tmp 5],yB 7 0x5ca9167afbf28bf8b7aa777f42236112c c242_1⟩
def c243_0 :=yE 10 0x37baa632f27886d711b442eee766bdfe48d6e17952c85cf09d64e10 (.toBytes (.t 8))
def c243:AFn:=⟨2,10,[.tmp 4],yB 5 4789559279849628 c243_0⟩
def c244_0 :=yA 110 0x30a9b1da28c494d80153ce2547187fcaaeec177a718571a121f48b9cfb61fdcbaa4ef8b3a7c0322b81d13f64c7ec8d8827db00696bf6eb465683c67b1f102e43aaacf39e17365cbb94ac8c004397f8bffe1c
def c244_3 :=yF 85 0x382ab599a55d19eab8a7c2770a038871ba6bd394d21bb8c4ae56a5b9763e0cb120682a737734b5fc82e9a64aacd50003e4f8039c81b9735c8d7d61c35ac40ab5e8830b114475333d1b83279410ce9f026e8f0e5db99d14e2c95732cf9e021c02b11f67dadc47f6d7ff63c (.eq .ptr true (.t 64) (.c (.ptr none))) c244_0
def c244_5 :=yF 54 0x1bb69f0db87a999ef9a73966dbb19449d32e42af011dfa5e41d7a7d9e1681ed8eacdecc55cc6bff75eb3dc2813b75225225543d705c76dc8d060838671410813d8cc78f4e1fad26279a1522d3fc (.build [.bool false,.bool false,.bool false,.bool false,.bool false,.int .u64 0,.int .u64 0] [(0,1,(.c (.bool true))),(5,1,(.t 37)),(6,1,(.t 39))]) c244_3
def c244_8 :=yF 36 0x5d4d262ce557743857d0bb07bd0cf795eee5d15d993d04c97867ad4410d3765e20a9b62f09ff57172165ed599dae3bb38e490f29bd89a13644573ced6c571f11461cd225757cd11530587551e92617aa902e1c92af2cd9d6933fda1f4cdc5616070a8b4279d318e8f7d13770c24dbe62647f254a5adb0cc5ae013f98cd3245ff9dfa163c (.build [.bool false,.bool false,.bool false,.bool false,.bool false,.int .u64 0,.int .u64 0] []) c244_5
def c244:AFn:=⟨2,110,[.cellN 4 7],yB 5 0x6fae926033c70f6292f2909c c244_8⟩
def c245_4 :=yM 39 0x12f61f7f9750b7b29a8e733ae2e7bb2a8f8ba40b223c7266525dd18ad24c302d6ba2b47104e6d5c2d222ff666b4d4edd05c0b61fbca9c0c80cfa15c54a9b64290eb730f4e6bfcecfc5276b17b5ff31a0ecd8e2011b2aee58c7bc097c3de0d1505672509a166806f6acd22a1985f3b5250bd3fc (.lookup (.leaf (.int .i64)) (.agg [.i 0,.i 0,.i 0,.i 0]) false (.t 27) (.t 28)) (.invoke [(45,299),(111,319),(120,64),(182,330)] (.t 35) [(.t 36)])
def c245:AFn:=⟨2,39,[.tmp 4],yB 10 0x1f596b0bb219894b4ded8d930f659c0e30daf56da109c c245_4⟩
def c246_1 :=yA 20 0x31a41a84c6b8e372131b49990b756d47bdaf917fc9e7324b5325a1b194103646bf15c474f42dbc622cbfe621784c9ea6c360f08907a088e3e323a7d1951c
def c246:AFn:=⟨2,20,[.tmp 4],yB 5 4789558483587228 c246_1⟩
def c247_3 :=yG 43 0x147ee7c369fc4051ea4584b92b116f33c163ac58476da129e8a9c1447fbf0e6382b59bf1cb43ba679f678b4cbef980f80aa25eb9e387ca451d490589be20cab8d201f7f5dde3cc942aee38bdafef81752b877929b84bb1bec3f5b218de2f29230bf7c790689ba22d6911a213c8dc1fbfbb5eb34d6985e95da65be7a06421a151c (.i 15)
def c247:AFn:=⟨4,43,[.tmp 8],yB 9 0x1ea6b1cf4c12109c c247_3⟩
def c248_3 :=yA 31 0x1987d905503378481e91cae80750642f3bfdff2ef57d2a00daec788b7201845ddea33b03b944061e25199fd7d6cef87b3ccbbbd2f78f0eb26b5126dcc6011bc
def c248_4 :=yF 46 0xb96a91157b36435c5dc6687b0ac060308818b603ab6e1a35a7935ab3a5b32d2b7c468a18b32c0bce40a3ce10fccb46e24bc0bffc6f5865e39f9531cd4e5c981503496509b444a0e5ad7e8dfbe7d3477b2cd7cd738162c8a68ba5d51c (.mput (.leaf (.int .i64)) (.t 36) (.t 37) (.t 38)) c248_3
def c248:AFn:=⟨3,46,[.tmp 6],yB 7 0x17d6b927192d09c c248_4⟩
def c249_4 :=(uF (fun a b c d=>jA 143 0xfe791c72295809e6d973750fbd7d39bc68dadafc6d985b3e55cfdb09fe342b7ddb743b4b44e7e46f1d337323b2162991cf3b7a4504b87302d55697f84bf91df1feb4e3b641638902f24eca97df008315cb25d8bfbb0a68b9770b94db53af1ed587c 2 2 0 [a,b] [c,d] []) _) (.int .u64 4) (.i (-1)) .fail (.sliceS (.t 133) (some (.t 134)) none)
def c249_6 :=(uF (fun a b c d=>jA 118 0x1809d5d5ede0a5f82afeafe9e66e87c6a53e8b1e93a3f9431981e3040486cbbd567b8f298630fd27997cc57bd105d6aa15278cb82d67b839a8e9b306712dc3eec249b9fc632815f73017a041f15af50ea69804f46fc1a953b24944f4ba8ffb3597f1171bc 1 2 1 [a] [b,c] [d]) _) (.i (-1)) .fail (.sliceS (.t 108) (some (.t 109)) none) c249_4
def c249_10 :=(uF (fun a b c d e f=>jA 95 0xdbe7fe5ed6023bbc3024229365023a080bb8b2c9a8c85002ed4a92ea6d58f9c300e28e28224114d04ecb4c43002b242d71774ca7a9fbf7ddef87ee05eac0cce14ef7048e1a3f74d31e91b59afe682bd5ddeadd710238489026fdc04c74408c4858ffe8d7d0a4e38632489350fd661a1dc620840de68c6ae20cfb9ad503cb12f25fd3d22e0e250 1 4 1 [a] [b,c,d,e] [f]) _) (.i (-1)) (.ixStr (.t 60) (.t 61)) (.sliceS (.t 65) (some (.t 67)) (some (.t 68))) (.ixStr (.t 78) (.t 80)) (.sliceS (.t 85) (some (.t 86)) (some (.t 89))) c249_6
def c249_16 :=(uF (fun a b c d e=>jA 48 0xcc8aa671f3ce1c9196cc46eab4ad73b6237d092b94426abc25132677d0bc625333dd49e88ac36edcc022f02a9fac694723cfa6898b839c645c588444ee9be8b76667f6fb32f542056dc2d5258f6367e7c17cd4a8e75ff7bbd1b3101b5de16c014695ebd4672096b73a53ea80c6d79be8c216ed9798c52cc475f5485c2cb48c 1 4 0 [a] [b,c,d,e] []) _) (.i (-1)) (.ixStr (.t 28) (.c (.i 0))) (.lenS (.t 33)) .fail (.lenS (.t 41))
def c249_17 :=(uF (fun a b c d e=>jA 60 0x13c8339c3e0ef64819d607223c4919d20cbd18fa694a8522a0a1d45329737fff6b5acf03eea4f24687fe07476897c38dc3ee332fc117a75b05ac514086f3a60622f10efc35e91bc 1 3 1 [a] [b,c,d] [e]) _) (.i (-1)) (.ixStr (.t 48) (.c (.i 0))) (.ixStr (.t 50) (.c (.i 1))) (.lenS (.t 52)) c249_10
def c249:AFn:=⟨2,143,[.tmp 4],yN 16 0x2a9ec81d7ed33e3c0484c9b3aeb2631109c (.lenS (.t 14)) c249_16 c249_17⟩
def c250_2 :=yA 18 0xffead62c3a4cbbd748d95a56b7ce99f7c40d4123aac46c70e42a1170012dd2da8428053936121bb6df3a7c05512ba2d38ebef3a4f6b22a98425d605cb641ffc77efcf2f95f75499677a4ae7f09c
def c250:AFn:=⟨1,18,[.tmp 2],yB 3 532183339164 c250_2⟩
def c251_3 :=yG 20 0x41336f0f23d67f5d6f2aa74203069ae22415a74de138f88bb28c563e0de10cf4eac25d2359f50f05eb7f5d81798d4568b5fa778a56c229f387820a496f90aede456e69db8b3412614c6a888f06a6fddaec6106d6601456467b1cf7bbdb20e9d41017dba44237282771bc (.i (-1))
def c251:AFn:=⟨2,20,[.tmp 4],yB 5 4789558483587228 c251_3⟩
def c252_3 :=yG 20 0x41336f0f23d67f5d6f2aa74203069ae22415a74de138f88bb28c563e0de10cf4eac25d2359f50f05eb7f5d81798d4568b5fa778a56c229f387820a496f90aede456e69db8b3412614c6a888f06a6fddaec6106d6601456467b47fae2e9ad56a41017dba442bca40771bc (.i (-1))
def c252:AFn:=⟨2,20,[.tmp 4],yB 5 4789558483587228 c252_3⟩
def c253_3 :=(uF (fun a b c d e=>jA 35 0x5896f4a9d7568279f98232dcb385d0dc8bc5d9db61ff460934dd88ce7c57746664965e34045babfe89d527e7e59e887a506c4866365538a6f7d5e8c3eec88e1b2ee45f58691bcc78578989f8b7e8df8ecdb7f8a74b0fde0744773a5e8f713e07e4b341613ed47f0a05569a6c94d3f852dc 1 4 0 [a] [b,c,d,e] []) _) (.i 6) (.lookup (.leaf (.int .i64)) (.agg [.i 0,.i 0]) false (.t 19) (.t 20)) (.field 1 none (.t 21)) (.build [.i 0,.i 0] [(0,1,(.t 29)),(1,1,(.t 30))]) (.callv (.t 28) [(.t 31)])
def c253:AFn:=⟨4,35,[],yC 2 81082 (.label 0) c253_3⟩
def c254_1 :=yA 19 0x4e3f7a2ed269a57b547b4584d44a97471f8423322d8ac556f029df359effc0084aa1b777156b26ed2921bc176865646f2866fd0
def c254:AFn:=⟨2,19,[.tmp 4],yB 5 4789559279849628 c254_1⟩
def c255_2 :=yE 27 0xd1384a16eaa20d639cce2a9528700bd37e365e3bda87c0d04587d469b27bc04545396980b1d3eb84aa031b2f2b2a6d0c9d6070f86b0a18c58d792feda283a84454d84b6e1a711cdfe04d77498d99b8b404e10348c (.callv (.t 23) [(.t 24)])
def c255:AFn:=⟨3,27,[],yC 3 0x20c35411b2f13c3a (.label 0) c255_2⟩
def c256_0 :=yE 9 0x6671e38f4fedc91b3c6959ad563723dedd8a7fddb6d4512c (.mkClo 266 [(.t 3)])
def c256:AFn:=⟨2,9,[.tmp 4],(c256_0)⟩
def c257:AFn:=⟨1,5,[.tmp 2],yA 5 0x392e1fe44c2ba66272eb76db4ad09c⟩
def c258_3 :=yE 56 0x65402e595716182854ee68d0063ff8394173fdf109dd2e973d62e4ffb96ad2a6345c232ed2d5d496b1f465674118ef96b30a714473345187f38e7a94d9b4f27a5b5d43130cc097d8c525251707717774a05ea54b258f5e43b0297857eca4fe131b3dae20cb03ef687810840f6a602e1215f88f8e2480ce0e373171c5219161c19673256d271a1a4f44f690 (.mput (.leaf (.int .i64)) (.t 53) (.t 54) (.t 55))
def c258_5 :=yB 20 0x950df3de8ddc82ee2d0095f1dfbf4ca8959ad1d844cbf0d22b2be81743dec7d516c972b3b9d70e8fc4cbb9be3accd456a10d7c357d6d1c13e82689f509c c258_3
def c258:AFn:=⟨3,56,[.tmp 6],(c258_5)⟩
def c259:AFn:=⟨2,8,[.tmp 4],yA 8 0x4ca912ac4b75621f410219c8b54335932d109c⟩
def c263:AFn:=⟨1,6,[.tmp 2],yA 6 0xd306e95d5ab77cbb4e732c3ede43d09c⟩
def c264:AFn:=⟨1,6,[.tmp 2],yA 6 0xd306e95d5ab77cbb4e732c3ede43d09c⟩
def c265_4 :=(uF (fun a b c d e=>jA 42 0x11ef470717953ca343c313ecded71bd7c40316a54f85631c418edaea15c19f59ef02c577f912d19487c642492278430fe4f5954d18cc349298ecfaa9f5e396f270c7814189110ce2491c78031346382442edb6f7a70a6dd6f331a028582525a0417438638aa91e71910aac071f61cfce0facf84ef6a49df2fda3cf32a3d334c7952ead08f5d447b3f4e10 1 4 0 [a] [b,c,d,e] []) _) (.i (-1)) (.callv (.t 26) [(.t 27)]) (.slice 1 (.t 36) (some (.t 37)) none none) (.clear [.i 0] (.t 38)) (.slice 1 (.t 39) none (some (.t 40)) none)
def c265:AFn:=⟨2,42,[.tmp 4],yB 11 0x44642376ec777f813593ab9156246a12b8909c c265_4⟩
def c266:AFn:=⟨2,7,[.tmp 3],yA 7 0x1355119e6f115b153fafabc09acf01fb709c⟩
def c267:AFn:=⟨1,5,[.tmp 2],yA 5 0x161cd656430472adebc79826db4ad09c⟩
def c270_4 :=(uF (fun a b c d e f g h=>jA 44 0x5046195dd60a558b771b2134cb774599796d779c7dd4b72981fa3737243385c539bd6805a642905b3585c017a2a8b5a92756a4e77d8be031d2fd612741ff732e631b0b0347591d3fec346c714b9c8b1604564e4bf9c73121d0fb117561681b4c85afe7ab175005f13baa68e25885a69743a6f91327f7efb77cdfe58dddb326ea1be326da1694f95d101f7b3bf8e910 1 7 0 [a] [b,c,d,e,f,g,h] []) _) (.int .u8 45) (.alloc 24 (List.replicate 24 (.int .u8 0:V))) (.convInt .u64 (.t 20)) (.sliceA 24 1 (.t 5) (some (.c (.i 1))) (some (.t 29)) none) (.sliceA 24 1 (.t 5) none (some (.t 37)) none) (.ofBytes (.t 38)) (.sliceA 24 1 (.t 5) (some (.c (.i 1))) (some (.t 41)) none) (.ofBytes (.t 42))
def c270_5 :=yE 54 0x4e169ebf7650cc0adb8fe6bdc78ed64247e855b670435088f1e4360e7ab07772c02e237a38a4363c (.convInt .u64 (.t 45))
def c270:AFn:=⟨2,54,[.tmp 4],yC 12 0x10bebd9bee70ee573d3eccdd3b5d8d109c c270_4 c270_5⟩
def c271_0 :=yE 9 0x236f6ad0db28189ec9e4b32dc (.sliceS (.c (.str [48,49,50,51,52,53,54,55,56,57,97,98,99,100,101,102,103,104,105,106,107,108,109,110,111,112,113,114,115,116,117,118,119,120,121,122])) (some (.t 5)) (some (.t 7)))
def c271_1 :=yE 15 0x2cb93f4c408a2d3093d336b5e292819d7b3fc (.sliceS (.c (.str [48,48,48,49,48,50,48,51,48,52,48,53,48,54,48,55,48,56,48,57,49,48,49,49,49,50,49,51,49,52,49,53,49,54,49,55,49,56,49,57,50,48,50,49,50,50,50,51,50,52,50,53,50,54,50,55,50,56,50,57,51,48,51,49,51,50,51,51,51,52,51,53,51,54,51,55,51,56,51,57,52,48,52,49,52,50,52,51,52,52,52,53,52,54,52,55,52,56,52,57,53,48,53,49,53,50,53,51,53,52,53,53,53,54,53,55,53,56,53,57,54,48,54,49,54,50,54,51,54,52,54,53,54,54,54,55,54,56,54,57,55,48,55,49,55,50,55,51,55,52,55,53,55,54,55,55,55,56,55,57,56,48,56,49,56,50,56,51,56,52,56,53,56,54,56,55,56,56,56,57,57,48,57,49,57,50,57,51,57,52,57,53,57,54,57,55,57,56,57,57])) (some (.t 10)) (some (.t 13)))
def c271:AFn:=⟨1,15,[.tmp 2],yC 5 0x204d2cef73721d043e67613e2d09c c271_0 c271_1⟩
def c272_0 :=yG 15 0xd8d11b45c10c59db45c55d053c2ec3cf9423c4ce00c1d86751c (.p 1 0)
def c272:AFn:=⟨1,15,[.tmp 2],yB 7 0x23460ee7c95bf0a617cc8713a535c595509c c272_0⟩
def c273_1 :=yM 160 0xae71a244088db625394d6e8fee3eb71d046cdd7ee615df5f59a6a1524ea91344b9c970f9d48e6f0ad73c797f1b91736b30bf58bcb87c (.ixStr (.c (.str [48,48,48,49,48,50,48,51,48,52,48,53,48,54,48,55,48,56,48,57,49,48,49,49,49,50,49,51,49,52,49,53,49,54,49,55,49,56,49,57,50,48,50,49,50,50,50,51,50,52,50,53,50,54,50,55,50,56,50,57,51,48,51,49,51,50,51,51,51,52,51,53,51,54,51,55,51,56,51,57,52,48,52,49,52,50,52,51,52,52,52,53,52,54,52,55,52,56,52,57,53,48,53,49,53,50,53,51,53,52,53,53,53,54,53,55,53,56,53,57,54,48,54,49,54,50,54,51,54,52,54,53,54,54,54,55,54,56,54,57,55,48,55,49,55,50,55,51,55,52,55,53,55,54,55,55,55,56,55,57,56,48,56,49,56,50,56,51,56,52,56,53,56,54,56,55,56,56,56,57,57,48,57,49,57,50,57,51,57,52,57,53,57,54,57,55,57,56,57,57])) (.t 152)) (.ixStr (.c (.str [48,48,48,49,48,50,48,51,48,52,48,53,48,54,48,55,48,56,48,57,49,48,49,49,49,50,49,51,49,52,49,53,49,54,49,55,49,56,49,57,50,48,50,49,50,50,50,51,50,52,50,53,50,54,50,55,50,56,50,57,51,48,51,49,51,50,51,51,51,52,51,53,51,54,51,55,51,56,51,57,52,48,52,49,52,50,52,51,52,52,52,53,52,54,52,55,52,56,52,57,53,48,53,49,53,50,53,51,53,52,53,53,53,54,53,55,53,56,53,57,54,48,54,49,54,50,54,51,54,52,54,53,54,54,54,55,54,56,54,57,55,48,55,49,55,50,55,51,55,52,55,53,55,54,55,55,55,56,55,57,56,48,56,49,56,50,56,51,56,52,56,53,56,54,56,55,56,56,56,57,57,48,57,49,57,50,57,51,57,52,57,53,57,54,57,55,57,56,57,57])) (.t 154))
def c273_3 :=yM 138 0x160b07d76e3635714469c4d76e4813f2c952b4dfdb2f630e66cc3ee090b0324a518aa182f656b5f6f4c7551b16046bc4f90ecb0df87c (.ixStr (.c (.str [48,48,48,49,48,50,48,51,48,52,48,53,48,54,48,55,48,56,48,57,49,48,49,49,49,50,49,51,49,52,49,53,49,54,49,55,49,56,49,57,50,48,50,49,50,50,50,51,50,52,50,53,50,54,50,55,50,56,50,57,51,48,51,49,51,50,51,51,51,52,51,53,51,54,51,55,51,56,51,57,52,48,52,49,52,50,52,51,52,52,52,53,52,54,52,55,52,56,52,57,53,48,53,49,53,50,53,51,53,52,53,53,53,54,53,55,53,56,53,57,54,48,54,49,54,50,54,51,54,52,54,53,54,54,54,55,54,56,54,57,55,48,55,49,55,50,55,51,55,52,55,53,55,54,55,55,55,56,55,57,56,48,56,49,56,50,56,51,56,52,56,53,56,54,56,55,56,56,56,57,57,48,57,49,57,50,57,51,57,52,57,53,57,54,57,55,57,56,57,57])) (.t 130)) (.ixStr (.c (.str [48,48,48,49,48,50,48,51,48,52,48,53,48,54,48,55,48,56,48,57,49,48,49,49,49,50,49,51,49,52,49,53,49,54,49,55,49,56,49,57,50,48,50,49,50,50,50,51,50,52,50,53,50,54,50,55,50,56,50,57,51,48,51,49,51,50,51,51,51,52,51,53,51,54,51,55,51,56,51,57,52,48,52,49,52,50,52,51,52,52,52,53,52,54,52,55,52,56,52,57,53,48,53,49,53,50,53,51,53,52,53,53,53,54,53,55,53,56,53,57,54,48,54,49,54,50,54,51,54,52,54,53,54,54,54,55,54,56,54,57,55,48,55,49,55,50,55,51,55,52,55,53,55,54,55,55,55,56,55,57,56,48,56,49,56,50,56,51,56,52,56,53,56,54,56,55,56,56,56,57,57,48,57,49,57,50,57,51,57,52,57,53,57,54,57,55,57,56,57,57])) (.t 132))
def c273_4 :=(uF (fun a b c=>jA 123 0x8b9c55db1a1657a2d4495448c7b82af9d584438c8bc43eb5d1855b6691a8e58b7e358c6ceb91def656072e6f02587c 0 2 1 [] [a,b] [c]) _) (.ixStr (.c (.str [48,48,48,49,48,50,48,51,48,52,48,53,48,54,48,55,48,56,48,57,49,48,49,49,49,50,49,51,49,52,49,53,49,54,49,55,49,56,49,57,50,48,50,49,50,50,50,51,50,52,50,53,50,54,50,55,50,56,50,57,51,48,51,49,51,50,51,51,51,52,51,53,51,54,51,55,51,56,51,57,52,48,52,49,52,50,52,51,52,52,52,53,52,54,52,55,52,56,52,57,53,48,53,49,53,50,53,51,53,52,53,53,53,54,53,55,53,56,53,57,54,48,54,49,54,50,54,51,54,52,54,53,54,54,54,55,54,56,54,57,55,48,55,49,55,50,55,51,55,52,55,53,55,54,55,55,55,56,55,57,56,48,56,49,56,50,56,51,56,52,56,53,56,54,56,55,56,56,56,57,57,48,57,49,57,50,57,51,57,52,57,53,57,54,57,55,57,56,57,57])) (.t 117)) (.ixStr (.c (.str [48,48,48,49,48,50,48,51,48,52,48,53,48,54,48,55,48,56,48,57,49,48,49,49,49,50,49,51,49,52,49,53,49,54,49,55,49,56,49,57,50,48,50,49,50,50,50,51,50,52,50,53,50,54,50,55,50,56,50,57,51,48,51,49,51,50,51,51,51,52,51,53,51,54,51,55,51,56,51,57,52,48,52,49,52,50,52,51,52,52,52,53,52,54,52,55,52,56,52,57,53,48,53,49,53,50,53,51,53,52,53,53,53,54,53,55,53,56,53,57,54,48,54,49,54,50,54,51,54,52,54,53,54,54,54,55,54,56,54,57,55,48,55,49,55,50,55,51,55,52,55,53,55,54,55,55,55,56,55,57,56,48,56,49,56,50,56,51,56,52,56,53,56,54,56,55,56,56,56,57,57,48,57,49,57,50,57,51,57,52,57,53,57,54,57,55,57,56,57,57])) (.t 119)) c273_3
def c273_8 :=(uF (fun a b c=>jA 96 0x2ed341b312ec677d3546133e4c7337350743bf80269e243d18c15016dc71956fb667d210857b331c65d76f9b77d0a88fe6834b87c 1 2 0 [a] [b,c] []) _) (.i 7) (.ixStr (.c (.str [48,48,48,49,48,50,48,51,48,52,48,53,48,54,48,55,48,56,48,57,49,48,49,49,49,50,49,51,49,52,49,53,49,54,49,55,49,56,49,57,50,48,50,49,50,50,50,51,50,52,50,53,50,54,50,55,50,56,50,57,51,48,51,49,51,50,51,51,51,52,51,53,51,54,51,55,51,56,51,57,52,48,52,49,52,50,52,51,52,52,52,53,52,54,52,55,52,56,52,57,53,48,53,49,53,50,53,51,53,52,53,53,53,54,53,55,53,56,53,57,54,48,54,49,54,50,54,51,54,52,54,53,54,54,54,55,54,56,54,57,55,48,55,49,55,50,55,51,55,52,55,53,55,54,55,55,55,56,55,57,56,48,56,49,56,50,56,51,56,52,56,53,56,54,56,55,56,56,56,57,57,48,57,49,57,50,57,51,57,52,57,53,57,54,57,55,57,56,57,57])) (.t 88)) (.ixStr (.c (.str [48,48,48,49,48,50,48,51,48,52,48,53,48,54,48,55,48,56,48,57,49,48,49,49,49,50,49,51,49,52,49,53,49,54,49,55,49,56,49,57,50,48,50,49,50,50,50,51,50,52,50,53,50,54,50,55,50,56,50,57,51,48,51,49,51,50,51,51,51,52,51,53,51,54,51,55,51,56,51,57,52,48,52,49,52,50,52,51,52,52,52,53,52,54,52,55,52,56,52,57,53,48,53,49,53,50,53,51,53,52,53,53,53,54,53,55,53,56,53,57,54,48,54,49,54,50,54,51,54,52,54,53,54,54,54,55,54,56,54,57,55,48,55,49,55,50,55,51,55,52,55,53,55,54,55,55,55,56,55,57,56,48,56,49,56,50,56,51,56,52,56,53,56,54,56,55,56,56,56,57,57,48,57,49,57,50,57,51,57,52,57,53,57,54,57,55,57,56,57,57])) (.t 90))
def c273_9 :=(uF (fun a b c d=>jA 81 0x102d53cb1dc442e2a60256bf64e698c2734760db8a6bdc2d08f41b577624d23c1898cd8f70f0929372044b29187c 1 2 1 [a] [b,c] [d]) _) (.i 6) (.ixStr (.c (.str [48,48,48,49,48,50,48,51,48,52,48,53,48,54,48,55,48,56,48,57,49,48,49,49,49,50,49,51,49,52,49,53,49,54,49,55,49,56,49,57,50,48,50,49,50,50,50,51,50,52,50,53,50,54,50,55,50,56,50,57,51,48,51,49,51,50,51,51,51,52,51,53,51,54,51,55,51,56,51,57,52,48,52,49,52,50,52,51,52,52,52,53,52,54,52,55,52,56,52,57,53,48,53,49,53,50,53,51,53,52,53,53,53,54,53,55,53,56,53,57,54,48,54,49,54,50,54,51,54,52,54,53,54,54,54,55,54,56,54,57,55,48,55,49,55,50,55,51,55,52,55,53,55,54,55,55,55,56,55,57,56,48,56,49,56,50,56,51,56,52,56,53,56,54,56,55,56,56,56,57,57,48,57,49,57,50,57,51,57,52,57,53,57,54,57,55,57,56,57,57])) (.t 75)) (.ixStr (.c (.str [48,48,48,49,48,50,48,51,48,52,48,53,48,54,48,55,48,56,48,57,49,48,49,49,49,50,49,51,49,52,49,53,49,54,49,55,49,56,49,57,50,48,50,49,50,50,50,51,50,52,50,53,50,54,50,55,50,56,50,57,51,48,51,49,51,50,51,51,51,52,51,53,51,54,51,55,51,56,51,57,52,48,52,49,52,50,52,51,52,52,52,53,52,54,52,55,52,56,52,57,53,48,53,49,53,50,53,51,53,52,53,53,53,54,53,55,53,56,53,57,54,48,54,49,54,50,54,51,54,52,54,53,54,54,54,55,54,56,54,57,55,48,55,49,55,50,55,51,55,52,55,53,55,54,55,55,55,56,55,57,56,48,56,49,56,50,56,51,56,52,56,53,56,54,56,55,56,56,56,57,57,48,57,49,57,50,57,51,57,52,57,53,57,54,57,55,57,56,57,57])) (.t 77)) c273_8
def c273_10 :=(uF (fun a b c=>jA 68 0x1e19a5b94e8bf57bcca4c161dabbb7a43d4ded0f549033f910aef2e92ebedb8a7238ce2be969f73a3e14b30d787c 0 2 1 [] [a,b] [c]) _) (.ixStr (.c (.str [48,48,48,49,48,50,48,51,48,52,48,53,48,54,48,55,48,56,48,57,49,48,49,49,49,50,49,51,49,52,49,53,49,54,49,55,49,56,49,57,50,48,50,49,50,50,50,51,50,52,50,53,50,54,50,55,50,56,50,57,51,48,51,49,51,50,51,51,51,52,51,53,51,54,51,55,51,56,51,57,52,48,52,49,52,50,52,51,52,52,52,53,52,54,52,55,52,56,52,57,53,48,53,49,53,50,53,51,53,52,53,53,53,54,53,55,53,56,53,57,54,48,54,49,54,50,54,51,54,52,54,53,54,54,54,55,54,56,54,57,55,48,55,49,55,50,55,51,55,52,55,53,55,54,55,55,55,56,55,57,56,48,56,49,56,50,56,51,56,52,56,53,56,54,56,55,56,56,56,57,57,48,57,49,57,50,57,51,57,52,57,53,57,54,57,55,57,56,57,57])) (.t 62)) (.ixStr (.c (.str [48,48,48,49,48,50,48,51,48,52,48,53,48,54,48,55,48,56,48,57,49,48,49,49,49,50,49,51,49,52,49,53,49,54,49,55,49,56,49,57,50,48,50,49,50,50,50,51,50,52,50,53,50,54,50,55,50,56,50,57,51,48,51,49,51,50,51,51,51,52,51,53,51,54,51,55,51,56,51,57,52,48,52,49,52,50,52,51,52,52,52,53,52,54,52,55,52,56,52,57,53,48,53,49,53,50,53,51,53,52,53,53,53,54,53,55,53,56,53,57,54,48,54,49,54,50,54,51,54,52,54,53,54,54,54,55,54,56,54,57,55,48,55,49,55,50,55,51,55,52,55,53,55,54,55,55,55,56,55,57,56,48,56,49,56,50,56,51,56,52,56,53,56,54,56,55,56,56,56,57,57,48,57,49,57,50,57,51,57,52,57,53,57,54,57,55,57,56,57,57])) (.t 64)) c273_9
def c273_11 :=(uF (fun a b c=>jA 55 0x25a5d6376e1369c40347164bcc2c0f451cf7a054740298d83473f3db7a1a352287e51245a0404a96098e4571d87c 0 2 1 [] [a,b] [c]) _) (.ixStr (.c (.str [48,48,48,49,48,50,48,51,48,52,48,53,48,54,48,55,48,56,48,57,49,48,49,49,49,50,49,51,49,52,49,53,49,54,49,55,49,56,49,57,50,48,50,49,50,50,50,51,50,52,50,53,50,54,50,55,50,56,50,57,51,48,51,49,51,50,51,51,51,52,51,53,51,54,51,55,51,56,51,57,52,48,52,49,52,50,52,51,52,52,52,53,52,54,52,55,52,56,52,57,53,48,53,49,53,50,53,51,53,52,53,53,53,54,53,55,53,56,53,57,54,48,54,49,54,50,54,51,54,52,54,53,54,54,54,55,54,56,54,57,55,48,55,49,55,50,55,51,55,52,55,53,55,54,55,55,55,56,55,57,56,48,56,49,56,50,56,51,56,52,56,53,56,54,56,55,56,56,56,57,57,48,57,49,57,50,57,51,57,52,57,53,57,54,57,55,57,56,57,57])) (.t 49)) (.ixStr (.c (.str [48,48,48,49,48,50,48,51,48,52,48,53,48,54,48,55,48,56,48,57,49,48,49,49,49,50,49,51,49,52,49,53,49,54,49,55,49,56,49,57,50,48,50,49,50,50,50,51,50,52,50,53,50,54,50,55,50,56,50,57,51,48,51,49,51,50,51,51,51,52,51,53,51,54,51,55,51,56,51,57,52,48,52,49,52,50,52,51,52,52,52,53,52,54,52,55,52,56,52,57,53,48,53,49,53,50,53,51,53,52,53,53,53,54,53,55,53,56,53,57,54,48,54,49,54,50,54,51,54,52,54,53,54,54,54,55,54,56,54,57,55,48,55,49,55,50,55,51,55,52,55,53,55,54,55,55,55,56,55,57,56,48,56,49,56,50,56,51,56,52,56,53,56,54,56,55,56,56,56,57,57,48,57,49,57,50,57,51,57,52,57,53,57,54,57,55,57,56,57,57])) (.t 51)) c273_10
def c273_16 :=(uF (fun a b c d e f g h=>jA 167 0x9ccdf0c1d61dd75f98e03e09b79b54f29fa4cb59ae6fad5746616d73c87cb558db714e9a5a99f142d9a622e8da3594b72555e04938aad8048e04fc0ec4624e5777e32b7ba99f8581e93336f296a3f02f5f69e420690d0847b6ce20619bbbb895f32284afe45f534dc0e07cc55c708013013ccda3ead7a4e49749c8a0c3cb8ab1a9c08612e43d7bc39011c81f89ed4d8d22f1c91bc 4 2 2 [a,b,c,d] [e,f] [g,h]) _) (.int .u32 10000) (.int .u32 100) (.int .u32 2) (.int .u32 48) (.convInt .u32 (.t 96)) (.convInt .u8 (.t 164)) c273_4 c273_1
def c273_17 :=(uF (fun a b c d e f g=>jA 42 0x10005c9110e1f4b69129cdb7ea94d4c0701ed1535adf031461f58d4c0bbcc03448c1280bacea8117c42683a6f41cffc2fb24ea7ce8146b8e8c053f700cfa2e4444af552d616dd200e17c7eff28d12963541904c13a53900b1c8032b931b93b4015920736e39f705784f02208adcdf6e2e185ec4beb08452a9181dcb1bc 4 1 2 [a,b,c,d] [e] [f,g]) _) (.int .u64 100000000) (.int .u32 10000) (.int .u32 100) (.int .u32 2) (.convInt .u32 (.t 22)) c273_11 c273_16
def c273:AFn:=⟨2,167,[],(c273_17)⟩
def c274_6 :=(uF (fun a b c=>jA 64 0x181312b5c35c32b651af75e6c96e2552180fa760336c70cd12afeda4db8ff014924a8e2365640b5003dfc087ecebb9b23c21ad2590d4a145204e883c242cf0d83e6cdeb45156cfffe19073f29713bedf8558b76379a5a4e7bda65c0ecf34c9816079c3da14a37c37e64dbe0644425c02d86a803ffb24c 0 3 0 [] [a,b,c] []) _) (.convInt .u64 (.t 41)) (.ixStr (.c (.str [48,49,50,51,52,53,54,55,56,57,97,98,99,100,101,102,103,104,105,106,107,108,109,110,111,112,113,114,115,116,117,118,119,120,121,122])) (.t 52)) (.ixStr (.c (.str [48,49,50,51,52,53,54,55,56,57,97,98,99,100,101,102,103,104,105,106,107,108,109,110,111,112,113,114,115,116,117,118,119,120,121,122])) (.t 61))
def c274_10 :=yM 89 0x43621d36b3c1efc6adc160123d61a3b60b33fbd2fcf1db2e0ef774f233d2c3633d94fc21e9f3dfaa718844c7819eb497f6c5b6f5769797d54a0b012f36c7bb65351be7f4aa1c26caba59468683621daa05aeda28a6c4579d09ddecb00a17b16c5d613189e0ac5b3d7764a751258e579621eec9ad3114685477c2e3fb7354f9ec7e4950 (.ixStr (.c (.str [48,49,50,51,52,53,54,55,56,57,97,98,99,100,101,102,103,104,105,106,107,108,109,110,111,112,113,114,115,116,117,118,119,120,121,122])) (.t 79)) (.ixStr (.c (.str [48,49,50,51,52,53,54,55,56,57,97,98,99,100,101,102,103,104,105,106,107,108,109,110,111,112,113,114,115,116,117,118,119,120,121,122])) (.t 86))
def c274_13 :=(uF (fun a b c d e f g h i j k=>jA 102 0x27701a1fd16176b7241b085378c5d76dbfbb7148388bf9b8eac43bfddb2af09dd7a6c0ad774dd079dbd49b740e0cbb682ae8f1a0a3fa3a8c103e2987c7529c999368d782e66dcd33e18b8fa460455ff1cbaaaffa9876a47a436f1a9e423f7da64292b64a716ffe8dd3c151be21eb536c1b2b879adc002bce4ea62f345b3cc9537ada43ae75ee405e56baec60a005be3f83b9ca6ff956d969c097c4031384309c 2 7 2 [a,b] [c,d,e,f,g,h,i] [j,k]) _) (.i 65) (.int .u8 45) (.convInt .u64 (.t 35)) (.convInt .u64 (.t 37)) (.convInt .u64 (.t 39)) (.convInt .u64 (.t 64)) (.sliceA 65 1 (.t 12) (some (.t 96)) none none) (.sliceA 65 1 (.t 12) (some (.t 99)) none none) (.ofBytes (.t 100)) c274_6 c274_10
def c274_15 :=(uF (fun a b c d e=>jA 30 0x219cd880bed1c39351683addf152e34a22834ef1b29e2995049bf69595b93f3deaf8c94573dddb02656317e8c8a78410 1 3 1 [a] [b,c,d] [e]) _) (.i 36) (.mkIface 9 (.c (.str [115,116,114,99,111,110,118,58,32,105,108,108,101,103,97,108,32,65,112,112,101,110,100,73,110,116,47,70,111,114,109,97,116,73,110,116,32,98,97,115,101]))) .fail (.alloc 65 (List.replicate 65 (.int .u8 0:V))) c274_13
def c274:AFn:=⟨5,102,[.tmp 10,.tmp 11],yB 12 0x2c9b328304eabf24489d12c c274_15⟩
def c275:AFn:=⟨1,6,[.tmp 2],yK 6 0x2567599e3b24281d129d89b751fec1c9d09c (.i 78913) (.int .u64 18)⟩
def c276_3 :=(uF (fun a b c d e f g=>jA 25 0x135b43b2b68c2e6b15fe26654cfbecedd44963a6122d7c64a59060953026ae13ae8edc3912adba393797738d7ea9ead540fbf3322edcc50737431cdc3b0bf6cf9855a3347ae257a2213ac94e10 4 3 0 [a,b,c,d] [e,f,g] []) _) (.int .u64 65536) (.int .u64 16) (.int .u64 256) (.int .u64 8) (.convInt .u8 (.t 20)) (.ixStr (.c (.str [0,1,2,2,3,3,3,3,4,4,4,4,4,4,4,4,5,5,5,5,5,5,5,5,5,5,5,5,5,5,5,5,6,6,6,6,6,6,6,6,6,6,6,6,6,6,6,6,6,6,6,6,6,6,6,6,6,6,6,6,6,6,6,6,7,7,7,7,7,7,7,7,7,7,7,7,7,7,7,7,7,7,7,7,7,7,7,7,7,7,7,7,7,7,7,7,7,7,7,7,7,7,7,7,7,7,7,7,7,7,7,7,7,7,7,7,7,7,7,7,7,7,7,7,7,7,7,7,8,8,8,8,8,8,8,8,8,8,8,8,8,8,8,8,8,8,8,8,8,8,8,8,8,8,8,8,8,8,8,8,8,8,8,8,8,8,8,8,8,8,8,8,8,8,8,8,8,8,8,8,8,8,8,8,8,8,8,8,8,8,8,8,8,8,8,8,8,8,8,8,8,8,8,8,8,8,8,8,8,8,8,8,8,8,8,8,8,8,8,8,8,8,8,8,8,8,8,8,8,8,8,8,8,8,8,8,8,8,8,8,8,8,8,8,8,8,8,8,8,8,8,8,8,8,8,8])) (.t 21)) (.convInt .i64 (.t 22))
def c276_4 :=yL 7 0xc11af6fecc8b65843a202114042f660c7e483eab4910034e10 (.int .u64 4294967296) (.int .u64 32) c276_3
def c276:AFn:=⟨1,25,[.tmp 2],yB 3 0xa53036736509c c276_4⟩
def c277:AFn:=⟨1,4,[.tmp 2],yA 4 0x1ce84a36c27671484c506d8fdde156cba66d0822d09c⟩
def c278_0 :=yA 8 0x51a16cd2b124a313b86b8ebca34def36c
def c278:AFn:=⟨1,8,[.tmp 2],yB 3 532422217884 c278_0⟩
def c279_0 :=yE 8 0x432727eee8a8c5280b977d304652029a6ac98d254ece4 (.convInt .u32 (.t 3))
def c279:AFn:=⟨1,8,[.tmp 2],yB 3 532183339164 c279_0⟩
def c280_0 :=(uF (fun a b c d=>jA 14 0x5858bba3e460433cc1f5707b4ac220d2961b795a58568990335ac 3 1 0 [a,b,c] [d] []) _) (.int .u32 125613361) (.int .u64 27) (.p 2 0) (.convInt .i64 (.t 12))
def c280:AFn:=⟨1,14,[.tmp 2],yB 5 0xc1f1d05465ae938df6e0edf4348b8f4d386509c c280_0⟩
def c281_0 :=(uF (fun a b c d=>jA 14 0x5858bba3e460433cc4e7654e8c2b10ee8f4c095a58568990335ac 3 1 0 [a,b,c] [d] []) _) (.int .u64 285870213051353865) (.int .u64 58) (.p 3 0) (.convInt .i64 (.t 12))
def c281:AFn:=⟨1,14,[.tmp 2],yB 5 0xc1f1d0377361f137fba30bf0e5fa0f4d386509c c281_0⟩
def c298_4 :=yE 103 0xe368f479948f9ce414a5ed1f21b38ee341daeaa17a42ebab5aceb2db85f238df80f8a1053ad0ce0483c6a401aac83568f146253f303705ffcb3adb8aec10dc6104773dbef881d24c413657628f1548d92ccac90 (.lookup (.leaf (.int .i64)) (.i 0) false (.t 85) (.t 90))
def c298_5 :=(uF (fun a b c=>jA 79 0xa9eadbe8a4457e4674066953acd9144683b4aaf04c4bcc2e15330ac5db2f318e2a4f57551ada5f019125b6c0afd5e8d1e6f3b149c9546ee33641cc8e810ad5a6268d576206c53868ae18f49aacbe6b6185c84b239d1daaf569f5bf7b9f4cb6ec6e530bde8ae62733e4f31a1bb28c405964160b671e22183fc0c41bce10 0 2 1 [] [a,b] [c]) _) (.lookup (.leaf (.int .i64)) (.i 0) false (.t 61) (.t 62)) (.build [.i 0,.i 0] [(0,1,(.t 74)),(1,1,(.t 75))]) c298_4
def c298_8 :=(uF (fun a b c d e f=>jA 54 0x2d40463a4d56c88922382fcb9b3b475971571e582d9f30a29fe1cbd4e2af04895aea5cee23cf06b4bbcc998919be6528a84be4f59c5cb2f7599578e20f5517839fe0dce7dc2e1730b7263766e082699c42bdd8d74f793c455f6064b173cc4c8e86c997b4ed919335004dcb2b3d5ac 1 4 1 [a] [b,c,d,e] [f]) _) (.map none) (.mkClo 305 [(.t 12),(.t 4)]) (.mkBm "roundhouse/dpoll.told" (.t 43)) (.nilckB "roundhouse/dpoll.told" [(430,429),(432,446)] (.t 48)) (.invoke [(430,429),(432,446)] (.t 50) [(.t 47)]) c298_5
def c298_10 :=yJ 26 0x18d3e5e83623933af9a550efa061e72eb5e09ae2d66208f46ff0b5e6acc2cd02a93805f43b35e29d86ca4bb63212df540a5798e467e93c066d2c1929e44a3d1d7cca6a52e7160cad508ca8ce10 .nili (.eq .ptr false (.t 18) (.c (.ptr none))) c298_8
def c298:AFn:=⟨4,103,[.cell1 8,.tmp 9,.tmp 10,.tmp 11],yB 12 0x3793736de6891869f7ff29972d39cc74592dc c298_10⟩
def c299_1 :=yA 16 0x1ea7437268d8c88312cd17947a8d499588ac91f89de3e09ece86da4c3f167c082ebab06fca6c2913fc
def c299:AFn:=⟨2,16,[],(c299_1)⟩
def c300_3 :=yG 28 0xabe67d44540efe1057f78b3000e2686ae974146978ca88677356c725fdfd944ebf20881af03ac6153e8117105f23ce6d6cf15140ea1d19d88f16a6645faa5c1bab337dac7c4bd185c2a09821f0aefbbc1da71644d0fe3c71d5a82db802821ee065ed3658397ec5b875ac3ca0c3adedfce10 (.i (-1))
def c300:AFn:=⟨2,28,[.tmp 4],yB 5 4789558483587228 c300_3⟩
def c301_5 :=yG 54 0x1fd6ad35dffb14d2af17ce6606b76f96184c00dfd4564e4f7635d4c7d067cbaad9ec9282d62d27c74aca1ed381b1863633657d189ce538401be37339cb0e70e017e3f3d9d9f2687f8129c5e1b9b265a5895b90 (.i 191)
def c301_6 :=yH 39 0x469d7df9e28dd153e1912e66f75ea550d514029e336afb0e33b13aa6fc57af42630d1977923c1623665c0a1c446fbe7717460833cf84e712e0fd9cc77465824c97f1df64fe73128fe6331a9044349e0503c46a0d84078e39ed4b3e0a3b3c8a84441b24f92b6d0a87d0d4a1f6a348cd89abb061888b4b6dc5b66b9fbac9a01d252b017e562d09c (.i 38) c301_5
def c301:AFn:=⟨3,54,[.tmp 6],(c301_6)⟩
def c302_0 :=yM 12 0x28acf3629c132e18fa91427e983a6c4f35b1616f5ac (.eq .ptr false (.t 3) (.c (.ptr none))) (.eq .ptr false (.t 9) (.c (.ptr none)))
def c302:AFn:=⟨1,12,[.tmp 2],yB 3 532422217884 c302_0⟩
def c303_4 :=yM 49 0xe69dc97a02958ec84030b4d29795d049ea7cb90246bfb325917c281ff7f1f83847ae250 (.mkIface 430 (.t 45)) (.mkIface 432 (.t 47))
def c303_5 :=yF 40 0x1c3431aecf45f612c52c81510e2010329acd2c6dc0119f63ccdcec29045e443d2c457ce955e40521ecb37f2999e1126b1dc0c0c2b84a7baedb41500e0fd2ca188c69853414a47c5a13b1e7c98f17db129ca79ae1a20eccae655eb0dc75417ea861bb4f15d08a85f52da0a236d676044183ee87d026f03872a1c3dad1d53ab48349962dae079cfe88e7e5c7ed2fcef771a871f594e10 (.build [.i 0,.i 0] [(0,1,(.t 34)),(1,1,(.t 36))]) c303_4
def c303:AFn:=⟨1,49,[.tmp 2],yH 5 0x34215b0ce35eecf418a5d345495226de509c (.nili) c303_5⟩
def c304_3 :=yA 98 0x4697c28b17169b286d82b4d4baf359838fc191ac52a8213509cd6e41cb149140b5916964c651b8f53467cf3832618393698d6209ccc0378ddc792a198dab1c9cd8a992f65f50aaec0634c757f68a84ebc26526065d94925998ed36123e7bad186d3737cc50f9e064085369d1240dcebc8ea333d0d7afa108c1270fc8f67bc6b31cafe33fc
def c304_7 :=yE 121 0x983e05bebcb35f1303feff7e5b7e98971e5da37a2ee35177d3af0c76783f5db5f169ba1ede92d55e9abc2ec7f5891ea1c3ccf774fd810f357403b585f0f8ead7f8b12697b770c355ba132d51c (.minI [(.t 108),(.t 115)])
def c304_8 :=yA 36 0x18dc67d09d9b2c7939e27d59b7c4910051639512b2e9fc1189eb4852c27eae21c9d5bea9e1694476135e2b9a5025669879b1180d2545154f34685710249f0fbaf8ac90
def c304_9 :=(uF (fun a b c d e f=>jA 60 0x58484d541dc69218f02e3335e6373b9a183c6082d6e09586610deee7c92160ae19a093a72234cc05259cbc37635bab34d28ab9a940bd44ddb9a9c05f2da57c837eb0f7c57ad4ebcb8a0d6951aa989fde54e2fbaf5e7d2697ca1cda5a42b95a41930cc6dae1f448f0acf428fce4568a00e9e2aeea1fa2b6b07f5fb9aaf1aa80103522b5f6910 0 3 3 [] [a,b,c] [d,e,f]) _) (.eq .ptr false (.t 11) (.c (.ptr none))) (.eq .fn true (.t 37) (.c (.nilfn))) (.callb [("roundhouse/dqueue.due",[(191,342),(197,387)])] (.t 40) []) c304_8 c304_3 c304_7
def c304:AFn:=⟨5,121,[.tmp 10],yB 11 0x25766e1190b89509c c304_9⟩
def c305_0 :=(uF (fun a b c=>jA 12 0x349735dec60c2aba6b360ca57d9bdd6f75e1f5ac 0 3 0 [] [a,b,c] []) _) (.mkBm "roundhouse/dpoll.holds" (.t 3)) (.nilckB "roundhouse/dpoll.holds" [(430,428),(432,445)] (.t 8)) (.invoke [(430,428),(432,445)] (.t 10) [(.t 7)])
def c305:AFn:=⟨2,12,[.tmp 2],yB 3 0xa35a5a573509c c305_0⟩
def c306:AFn:=⟨1,4,[.tmp 2],yI 4 0x3e74bc8c76a4aa590df662612c (.nilfn) (.mkClo 313 [(.t 1)])⟩
def c307_0 :=yA 9 0x10c959813265cfeb861d253d68f7535cd2f3fc
def c307:AFn:=⟨1,9,[.tmp 2],yB 3 532422217884 c307_0⟩
def c308_1 :=yI 24 0x19ef9bff8c598ffa5b06212b11ff470488df2ec81980a41d5f57d776c96c9161017701b408ec1a96a384b9053a688e84a6c7d3f0cb0598138d0e2b8a2d551c (.i 190) (.field 0 none (.t 11))
def c308:AFn:=⟨2,24,[.tmp 4],yB 5 0x3b39a75040d89752b1f877c0b909c c308_1⟩
def c309_1 :=yE 20 0x18d3afee708547a96d42b97236fed60fe7810b13ab48592a6083e0ed6131d9df52518f710560bc738a18dc30bc1ccc2488c40ca6ff1cef21f74ee554cd3607b40b0bf7eeb223fd4d0 (.build [.int .u32 0,.int .u32 0] [])
def c309:AFn:=⟨2,20,[.cellN 4 2,.tmp 5],yB 6 0x1871c7e9eb742bbcaa72e6211bc c309_1⟩
def c310_1 :=yA 15 0x119b6d0479cb868b96d4ea1a17de9d3c5eb279c5d547ef51d8fd9dccb74821c2d7d5bd2d73a10064597269a708dd3aea0b2a245cd4d0
def c310:AFn:=⟨1,15,[.tmp 2],yB 4 0x477fbd75d41cea2d09c c310_1⟩
def c311_0 :=yG 12 0x10d946994df92139c88212033dbb90a1277d5331866f6139a3650dd53fc (.i (-1))
def c311:AFn:=⟨1,12,[.tmp 2],yB 3 532422217884 c311_0⟩
def c312_4 :=yE 40 0x47d6470a4c40d21775e0b05b84aef7b230bc94ca6ca65715c03e56744b861bbb1c8e137ec4fa83cda79965dccb05e0674a0074760f319b9448ddfe158198a7d85caf319bf90e206662a4375a4f28f14cc0094dd2a0184da9608c4dcf330c3e2334b7b312f1b939950552430a55c77bc7f0c2a07424603b6e0abf0cfdc236c1f8ed08cae1de831fd5864dbb66578af6d80a4890e1948c (.slice 4 (.t 18) (some (.c (.i 1))) none none)
def c312:AFn:=⟨2,40,[.tmp 4],yB 5 4789558881718428 c312_4⟩
def c313_3 :=yM 30 0x2966aae5d9d9a0988a1cf89b834ab2f03099d1e184e62f8afc7936ff774ce6c1cf8f2d779c5e8116a92e74d76808d2c452476c1c405c729c80cba81c0f15c6c8a4615b0680cfbdf99eef11f40ac047b1cdd5c4ba6b7b22416160da94bfcd39104d5d9f5d84e195422394aa26b2dc (.ixA 96 1 none (.t 8) (.t 9)) (.callv (.t 24) [(.t 25),(.t 26)])
def c313:AFn:=⟨2,30,[],yC 2 81082 (.label 0) c313_3⟩
def c314_0 :=yA 9 0x10c959813265adf355e2e74d9206735cd2f3fc
def c314:AFn:=⟨1,9,[.tmp 2],yB 3 532422217884 c314_0⟩
def c315_4 :=yA 39 0xac6efdc4efecd0ba3a1942003586ecc244ef22cd20b61ac3c461b490e3ae1e9f6f0e3174b53b365c500ab89006163c
def c315_5 :=yA 25 0x6b0919664c5aa8a5fd94fc02e4269e3b1bae349f33b17eb7a9f342b5ac
def c315_6 :=(uF (fun a b c=>jA 67 0xa9b27f3cfc28622d4f3e82ecf03b6df683b4d43b0f6a65eae13b0782cc05c0927547b2c00a67f97e2f85abfba818ad2f09f6cd10075abf4f87e281b290562016d03bf3dc9cbfdba82755fd44e84a24f522613f828b294b34799e1cd911dca1fab66590066e168315a147f5ce226810855a7b649ec67596b779666f7b10c675dd10c8927a70e0c7a0affbeb26f0e986a16c647a2ffff1dde22dd9201e13b674f 1 0 2 [a] [] [b,c]) _) (.i 6) c315_5 c315_4
def c315_9 :=yH 71 0x4f7c136fc0dd25f02328d28f865aaa7652a0453eadcec730b32e2e7035c7e39aee9e89d1f67d9f2e088feb0eececcf003639d57ea6700e750e16a7d00301c0967aa37a4a9d03202f08cbf2cd3c8200db566e1fa35bcb95fd5918dd631075a411bc (.i 120) c315_6
def c315:AFn:=⟨2,71,[.tmp 4,.tmp 5],(c315_9)⟩
def c318_6 :=yG 72 0x1547727c0d0f8c0ec64d077583fdfb6a391d0546dbddc59a81fd46ddd7e2ff7b93b818cc0c13af4bc7720fa8733a5a6f5bde2d143bec21738bc9f8bc4318c3ede01379fc8a0849a6da6701f8897f7b5a54d0 (.i (-1))
def c318_7 :=(uF (fun a b c=>jA 95 0x8f77f3a3037d04e80430b6ef5e955d019036a708229cfc178f6d0d412443af2f77594ef519258552d85094864e2ed03e9a17af576d30bbd48017233a1afeb29987a680eeccbf9027790b4c5ce24acc5d92b0778192f33ece0d52cdad55814298742ce684d7c9459d685c9992f75be19a7efde928e99c32d4f352bc4598f1e3f56adfb464cc97c54966982321dd5ee844204d7c3bb37ac18768a971a3187144aad1d905c2382698afc61056c2a395db90 0 2 1 [] [a,b] [c]) _) (.ixA 96 1 none (.t 72) (.t 73)) (.build [.i 0,.i 0] [(0,1,(.t 80)),(1,1,(.t 81))]) c318_6
def c318_10 :=(uF (fun a b c d=>jA 48 0x906f3698e0bf17ecaa72ce3cb07f3739561c8123aa4d66817dcb3a3b311347001620ae863f22f418f72feb63dcc3ce02dcd151a78688d5e184cd196fc784bac11327fb7499e28c08e2a7fc090858b5fb30f0ef50e15e95ba45945d04062d46b34ccc9fcd2d2be912eab785ad24eb2a1fc7601802175047c07e4e10 0 3 1 [] [a,b,c] [d]) _) (.eq .ptr false (.t 21) (.c (.ptr none))) (.mkBm "roundhouse/dqueue.due" (.t 38)) (.alloc 96 (List.replicate 96 (.i 0:V))) c318_7
def c318_11 :=yB 21 0xaf30125c280d166a5b83f1e47247519d0c9c6facfd430da3107ea5919ef12297fa95575ab254e10 c318_10
def c318:AFn:=⟨4,95,[.tmp 8,.tmp 9,.tmp 10,.tmp 11],yB 12 0x29ae96926ce6d24f79ff5f3fe83f74592dc c318_11⟩
def c319_2 :=yM 34 0x277a3fe56901abc74a2b7044df72b37d8881577539ae2ae0de0841735495bb7c7f35805b337f204e47425657ccfb4dda9d1725d37c5ea84d4bfddb1f8c431eeccbf3fbfe570b824496fd0 (.build [.i 0,.i 0,.i 0] [(0,1,(.t 24)),(1,1,(.t 25))]) (.invoke [(191,345),(197,390)] (.t 23) [(.t 26)])
def c319:AFn:=⟨2,34,[],yB 7 0x18021cf7fc22b33ca2a64e10 c319_2⟩
def c320_3 :=yG 29 0x2091be1ab5dd2d06ae5b977e5c79f27b17bfac9397933ddb8dede230d22c442c085a832c3c87d7d86f44c40ce5e00c7e5c515ad257b07820310fbcfac9acfd7f276065f26b14d22cd1345047acc9623950d1dd1e924a69811e126e33cec1c8ca9bf11d2f08c9325d463c783517909c (.i (-1))
def c320:AFn:=⟨2,29,[.tmp 4],(c320_3)⟩
def c321_2 :=yA 50 0x4e972cfe0634aa5ca6504d97e08b9a8fb234b067f48c
def c321_3 :=yB 43 0x889e2e9af47520dab25090052869130cc638601edd5f9c6d71ed66a067b6c53e9dfc1ca2db340bfc765f81aa826195bd47b5ea8cd0efb1abdc7ca2257e1de906aba183c5480dbcacb9f35a58f6d9c9b36d4b8cdd749d17dea7fe8b66b0c7ebb3f32ba19ddf9802cb43d79d6f5cae14c85750ba958e837b1c6b6dc7fb76ffe503cb93dcd09c c321_2
def c321:AFn:=⟨3,50,[.tmp 6],(c321_3)⟩
def c323_6 :=yE 88 0x10151ac1259c670360b880b4b9d9456854b6cfaa5d802ff141b88d9e626ae15bbcb512164abcae9b1f005a5e29d7ebe76e239eb390b6984eabc03b2b03aba9b31b4a3f690 (.invoke [(191,343),(197,388)] (.t 79) [(.t 77),(.c (.bool true))])
def c323_8 :=yF 62 0x267aa415da1235856f4f3b12b47f2a33f2746be2f32d9fae42fbb8d8dd7ebfccb0ec97c5e02bed69b58799cfb4de6d41c4c8274388ce9d1ab6ab2a6c051375eb7de5873b0099d2cfd273e8001bbad8569f57966f39367d634cf7e3d39834ec96f1123e4df7b6e207f9b1fa167211ea29c84bc06fd0 (.invoke [(191,345),(197,390)] (.t 58) [(.t 59)]) c323_6
def c323_10 :=yF 33 0xad8f4ddcb2a688723ab12dad8dec7dc17c8ddddb264342fdbee70e55995edc4b90620e966b51c8789d72fd7984c3bafe20934067a990702dfdd0338e9c249326de27dd35ac (.invoke [(191,343),(197,388)] (.t 31) [(.t 29),(.c (.bool false))]) c323_8
def c323:AFn:=⟨1,88,[],(c323_10)⟩
def c324_0 :=yM 12 0x28acf3629c132e18fa91427e983a6c4f35b1616f5ac (.eq .ptr false (.t 3) (.c (.ptr none))) (.eq .ptr false (.t 9) (.c (.ptr none)))
def c324:AFn:=⟨1,12,[.tmp 2],yB 3 532422217884 c324_0⟩
def c325:AFn:=⟨2,6,[.tmp 4],yI 6 0xe5fb396e23889bd7ad9a4fec438fe311bc (.nilfn) (.mkClo 333 [(.t 2),(.t 3)])⟩
def c326_0 :=yE 10 0x80398c2e4628def2ea583d0ece659305c401df7f9e355d45480fe634e10 (.eq .ptr false (.t 3) (.c (.ptr none)))
def c326:AFn:=⟨1,10,[.tmp 2],yB 3 532661096604 c326_0⟩
def c327_1 :=yA 18 0x1363832792a7515497f686610ac4db1862decfd5d504a07f31cefa19f9aae7701a19d0adf13c121f647bd89a0bc666fd0
def c327:AFn:=⟨2,18,[.tmp 4],yB 5 4789558483587228 c327_1⟩
def c328_1 :=yA 18 0x1363832792a7515497ec93cfe79d2f3b7e3c2e1ba7dd208cce9dd376f9aae7701a19d0adf13c121f647bd89a0bc666fd0
def c328:AFn:=⟨2,18,[.tmp 4],yB 5 4789558483587228 c328_1⟩
def c329_0 :=yE 12 0x305e5ab916aa91bdb88305a6928715c52b348c (.field 0 none (.t 10))
def c329:AFn:=⟨2,12,[.tmp 4],yB 5 4789558881718428 c329_0⟩
def c330_1 :=yA 21 0x89b934d3263b7bef33b2b7fa15d29dd9a81eddbd1b8732893222752dc981aaa044e83013b5864caccb0d9622760f3903e62cafaf949524d0c43ebce913fc
def c330:AFn:=⟨2,21,[],(c330_1)⟩
def c331_2 :=yA 25 0x57a21680d84b30a76b1fed06ad0bba9ddeb62344decd09b04927a05294f423ce8107d8b4be0b899c4464ee2b9cad61054e122460de5885ec196aa279038d896c19d3b5327af1eb10fa9ad0de0ff058ced28b2302b7d09c
def c331:AFn:=⟨3,25,[.tmp 6],(c331_2)⟩
def c332_1 :=yA 17 0x10c86813597503b4f40682e5eac7a009d14c5adaf3274e02c0f0dd74764970fecd1eaf59f09f278d12f845a55da68cc21911bc
def c332:AFn:=⟨1,17,[.tmp 2],yB 3 532661096604 c332_1⟩
def c333_4 :=(uF (fun a b c d e=>jA 41 0x2e3e577ccbfa11a8d6dd20d9ecf5f12fbe9708fe1b9939ebc565543f3da13f805aa32b2ce4adb552cf6e9c237f8bb91ae443cc665d7124b5e135d624d0f44ffcdc23f6a66fe0a00a6fde81e982b8b91a873120451dfa83f92d4a7abc8132619d8579b14612a7d64bcf2c192fafa77c8ed68fd046ccdc8297afa332ee282680fad1c88a4736575a710d18d10a1b3f8f83e0313fe6357109cda099ede25a 1 3 1 [a] [b,c,d] [e]) _) (.i 256) (.invoke [(191,344),(197,389)] (.t 15) [(.t 16),(.t 17)]) (.callv (.t 25) [(.t 26)]) (.minI [(.t 39),(.c (.i 256))]) (.label 0)
def c333:AFn:=⟨3,41,[],(c333_4)⟩
def c334_0 :=yE 12 0x7a06da27d437bfc524259d60ac6694379d39616f5ac (.eq .ptr false (.t 3) (.c (.ptr none)))
def c334:AFn:=⟨1,12,[.tmp 2],yB 3 532422217884 c334_0⟩
def c335_0 :=yA 9 0x10c959813265cfeb861d253d68f7535cd2f3fc
def c335:AFn:=⟨1,9,[.tmp 2],yB 3 532422217884 c335_0⟩
def c336_1 :=yA 13 0x36e858a9c1035ee6994399fdf330a056d38e5fc4c8c7217b004a17f6000ae7eec6a1f42a3adf94d1d96a784ba1fc77f9ef856f7a018c2af551e55b1709c
def c336:AFn:=⟨1,13,[.tmp 2],yB 3 532661096604 c336_1⟩
def c337:AFn:=⟨1,4,[.tmp 2],yI 4 0x3e74bc8c76a4aa590df662612c (.nilfn) (.mkClo 338 [(.t 1)])⟩
def c338_3 :=(uF (fun a b c=>jA 36 0x557f799cb1994a269dd12c90ebdf79b86afbb5d3e266c9b303a6ebcc09ca45b31b136c40ce6bd8fc855a534ca7012700de9d4ca538eeb3e0569bf79bbbd0877e10314d353434b89bebf4dc2e855c9e481ceddd2761dc842b6430b07bc3d76175a113b0f70e5cd9ba7e12ee8da872dc 0 3 0 [] [a,b,c] []) _) (.ixA 96 1 none (.t 10) (.t 11)) (.build [.i 0,.i 0,.i 0] [(0,1,(.t 24)),(1,1,(.t 30)),(2,1,(.t 31))]) (.callv (.t 23) [(.t 32)])
def c338:AFn:=⟨2,36,[],yC 7 0x120098e0018b3b69ff849de7a8ca (.label 0) c338_3⟩
def c341_1:AC :=
 sQ (rG [qQ 0 2 (.alloc 1 [.bool false])] [0,2]) (sQ (sQ (rG [mV 0 3 0,aA 1 4 346 3] [0,2,4]) (cD 4 (rT [.mk4 0 none (.store 1 (.t 2) (.c (.bool false))) none] [2]))) (sQ (sQ (rG [mV 0 5 0,aA 1 6 347 5] [2,6]) (.block 0 (.rangeFunc (.t 6) [7] [2] (.skip) (.block 1 (rT [.mk4 0 none (.store 1 (.t 2) (.c (.bool true))) none] []))))) (rT [.mk4 0 none (.store 1 (.t 2) (.c (.bool false))) none] [2])))
def c341:AFn:=⟨1,8,[.cell1 2],(c341_1)⟩
def c342_0 :=yA 8 0xdbd1dd0e5a5876726924c7a2bc21a46bf9428d09c
def c342:AFn:=⟨1,8,[.tmp 2],(c342_0)⟩
def c343_2 :=yG 22 0x50e7057bbe12613e3ce626f11836b092a5520353a99c13ed14ec87aef06adfbd5c3856d6f6490394c562784aaf502f61ac6a6e633aa3f8da063724c (.i (-1))
def c343:AFn:=⟨3,22,[],yB 7 0x18a48cc365efd09c c343_2⟩
def c344_5 :=yG 69 0xd3eb74473aaeb1c8e8e29c28b174da305099644ace017921067d536a457a7ba9f0a2d263f63b3775f23c4e7cae1593870ca46641434bc269aabe519ba828e46015f1ea6c4eab090a6defd0510034ba18d4eadc526f534b073abd2de45f75f8722be37947cabee2c0914aaa50adba0b46757e06bf152399d58215fcacc92ebf4cbde65f3fbc1b33efa190237a097ced80e0b23d408cfd539a71751b0b8d4240a517e3ab6b3736c78d1d37d90059307c9ed5f785b90 (.i (-1))
def c344_9 :=yJ 71 0x983279dfc02bc70cc5ffc5c4e53a2c8caa67ffd817989b4d97e388a969ec5fa2ec745979fa200fd932be1b15f2a7bf5b96ef210a3317aa6caf0e2113a6caeae022f344faa80106f67de0de567309f1df67b06d258b0f2e27d7c0b89180f7ae1665278b8cc505f9f84b2fa01a7f517889c6d677af37ffe39ed6055d194c5d89442464f93f40cdfe76cc (.i 24) (.build [.i 0,.i 0] [(0,1,(.t 31))]) c344_5
def c344:AFn:=⟨3,71,[.tmp 6],yB 7 0x17d6b92b404d09c c344_9⟩
def c345_1 :=yA 20 0x4cac24db1189cbec95605c925fa09439f0b48a7142601a414495ef2636f7fa9e06cf59e7df18df9a0d7f0870f3fc
def c345:AFn:=⟨2,20,[],yB 4 0x35fccc57fc709c c345_1⟩
def c346_0 :=yM 12 0x28acf3629c132e18fa91427e983a6c4f35b1616f5ac (.eq .ptr false (.t 3) (.c (.ptr none))) (.eq .ptr false (.t 9) (.c (.ptr none)))
def c346:AFn:=⟨1,12,[.tmp 2],yB 3 532422217884 c346_0⟩
def c347:AFn:=⟨1,4,[.tmp 2],yI 4 0x3e74bc8c76a4aa590df662612c (.nilfn) (.mkClo 352 [(.t 1)])⟩
def c348_5 :=(uF (fun a b c d=>jA 104 0x4a330d540028bc79ab9c245bfc6cb72cd7accad4cc8d1af7bb8a45fd30174efc3b4b65c749bb54cf604badbae5f838e40fb65c211ad937e2a764cb95a9c4671b3ec7026290cee46ac2355d121a4a721f94f130597094b04d110eef20dc8a8a36c7dd61ce1ad561388d412e23981cc7101d6b1c31bc 1 3 0 [a] [b,c,d] []) _) (.i 151) (.build [.i 0,.i 0,.i 0,.int .u64 0,.int .u64 0] [(0,1,(.t 84)),(1,1,(.t 85)),(2,1,(.t 87)),(3,1,(.t 89)),(4,1,(.t 91))]) (.mput (.leaf (.int .i64)) (.t 82) (.t 83) (.t 92)) (.mdel (.leaf (.int .i64)) (.t 102) (.t 103))
def c348_8 :=yM 132 0x1dd3122e2c9a14fe4e0d902e50bc1d5c0d96aa996772d25a614648fdabababff86192b069cbbd8e7ad9018a724a74fba6193655dc391bab3408cb143c076c62468947868c13d81a597624d164b58a210b90bbc33f02c0ed69d2d68d28a7a874e94021327e843996776e8ede77be650ace72999093179d15ac (.build [.i 0,.i 0,.i 0,.int .u64 0,.int .u64 0] [(0,1,(.t 122)),(1,1,(.t 123)),(2,1,(.t 126)),(3,1,(.t 128)),(4,1,(.t 130))]) (.mput (.leaf (.int .i64)) (.t 120) (.t 121) (.t 131))
def c348_10 :=(uF (fun a b c d=>jA 76 0xd39e26edce550f5ceba0517ed8a2ad4a6719febf7218c88148f1265866f63a1550b52607d6af5b9d84713cb432a8866a13c8cdb9267ac076da0e4556ea2403b72db1935e05120d0b6dbc033d9a89bf7f3fb1fb8f328f76a9aad630d20d9d238325d50fe75fc56fea8385d8891204b6aab3ca6759f5797e80958f8ee1b7324cf5be2fc6328ab85ea99effa5e336cce418175b2551c 2 0 2 [a,b] [] [c,d]) _) (.i 150) (.i 152) c348_5 c348_8
def c348_13 :=yH 45 0x95868d633cc56f8773542f0162c211beec84443e582b44d5c5b527898f720193f4c80601430004de8d00aa226b65c7cbc6bd845f9fa7f29326556ca139afbf83ae87671b2f67ca44db365e6492ea7ea6fc303bcef004a7978a23344a90ba9cfd0d51d2126767a9c16857a3834b28e9aa9ab3aff400b09833e8cf63d8f5781aae4888c7b14109c (.i 37) c348_10
def c348:AFn:=⟨4,132,[.tmp 8],(c348_13)⟩
def c349_2 :=yM 70 0x485d9383ef401051fa7cc55f98bba35122b41d85d49c1f545544dd274a53cdcb44b2fa80905bcaf9e53a29b6b4770c3fd44307e9f69803712881ce26dd3d88b70781805f05b4d89573cfa9014543a302ec4fee77ce0da364a8f551e47b14b27a657158315d1b3cf04aa868506134e678e1e4ada09753da59f9213d699769a9cdd9454d5f3441171ae57fa928 (.lookup (.leaf (.int .i64)) (.agg [.i 0,.i 0,.i 0,.int .u64 0,.int .u64 0]) false (.t 46) (.t 48)) (.mput (.leaf (.int .i64)) (.t 66) (.t 68) (.t 69))
def c349_8 :=yA 19 0x34a1c9acb4121259e163a7eb8441e08ab2435e18615501929627c94b5881513b50a02a09e02b458012e51bc
def c349_9 :=(uF (fun a b c=>jA 72 0x46c29b8a463bc538c7b774df0c342d6ac594eefaf380f7bd6c3d69b531e43b25592dd2909a19b8de77e3e8dd340840dc5317d56fb9019f3fc8d26cb3073c9dc4408ef29f37d4d9a5ebcd7d3849c58fed414318114277eed86c659ef616cff4887fecae14e1f78da0ae90a3c14459e801601ce517b7c734bfbb65fd0e3e86c9a7013ce3709e0a1c84e2207d0e474a80f36c 0 2 1 [] [a,b] [c]) _) (.minI [(.t 25),(.t 27)]) (.slice 2 (.t 24) none (some (.t 28)) none) c349_2
def c349:AFn:=⟨3,72,[.tmp 6,.tmp 7],yC 8 0x1a576e82a4b37c29fb95512c c349_8 c349_9⟩
def c350_0 :=yA 13 0x440584dd63d28ca39ab7b0f72b133ad79b02a7e5695351c
def c350:AFn:=⟨2,13,[.tmp 4],yB 5 4789558881718428 c350_0⟩
def c351_3 :=yE 24 0x2c3f78966df49d6d1ebdf8b78722284e91a8703c68b407012be1021a2d598ed8a19234db3d8f7f1bbc432e871039a741e2ec8790f281dc24f8581cfce0c0 (.ixA 3 2 (some 2) (.t 9) (.t 10))
def c351_4 :=(uF (fun a b c d e=>jA 35 0x1b89a11303a749f1289d87d026a9754a3788507f3038fcc9f31d13d62f7be011da6bba7358867b2a3c7cfff2b9908190d180aa940bcd41ab13edb523fd32c682b9ee2af1eec0f6cf8f537a201b0e5a109bf1dbcf1664edd6250 0 4 1 [] [a,b,c,d] [e]) _) (.build [.i 0,.i 0] [(0,1,(.c (.i 2))),(1,1,(.c (.i 1)))]) (.build [.i 0,.i 0] [(0,1,(.c (.i 4))),(1,1,(.c (.i 4)))]) (.build [.i 0,.i 0] [(0,1,(.c (.i 32))),(1,1,(.c (.i 32)))]) (.build [.i 0,.i 0,.i 0,.i 0,.i 0,.i 0] [(0,2,(.t 6)),(2,2,(.t 7)),(4,2,(.t 8))]) c351_3
def c351:AFn:=⟨1,35,[.tmp 2,.tmp 3],yB 4 0x3f3536f49966c38f761bc c351_4⟩
def c352_3 :=(uF (fun a b c=>jA 35 0x15d9eb94e9fad3b4d82a0360e8661006f0c0b8b756952a946c0308aed7b29e5dcf3cccb61ef8be24da8dda39b9aa61b5b33241064eae68137ed4cef4045c6bb5397ca66c9c8d85ecaa57dfc85fa409ccb7ce42ba540388afb0180adb88646c77cb27d1919d84d4e86a9c810874421fb468b3b0bd91477ca908124c 0 3 0 [] [a,b,c] []) _) (.lookup (.leaf (.int .i64)) (.agg [.i 0,.i 0,.i 0,.int .u64 0,.int .u64 0]) false (.t 16) (.t 17)) (.build [.i 0,.i 0] [(0,1,(.t 29)),(1,1,(.t 30))]) (.callv (.t 28) [(.t 31)])
def c352:AFn:=⟨2,35,[],yC 2 81082 (.label 0) c352_3⟩
def c354_4 :=yA 56 0x48402960c9bf68a6438771dec0f53863562054891c11027f16ad13ad7aff6a7d946e3118ae1689f1b17e343d370a7393f75f5eb92da44159b16aee66d4db32b8c115c5a9444b4e9844c437d1fb41f36a58157c3bf72607208c89345229aa11eada027da3c2dfa697e9b58918a3dfee04795ea5fba3a7c85bcb925c92a8e92caf56a987474b6876657c2c62cf04e250
def c354_7 :=yB 28 0x2345020c48aa0533c187ff4207d30d7c09a7cc5db824143b2413a6ccb4115355e914c15356f138376372c0852a2753205d7c52e0505de915c8f411f364226fedd06bde671a1121c33f93136c c354_4
def c354:AFn:=⟨2,56,[.tmp 4],yB 5 0x5ec5c974dd8b559712b1bc c354_7⟩
def c355_2 :=yM 42 0x80996135d517d994bb61bba0bedf8ab1291a11b16f3488968e667cf5381e91d8e4d432d8af67893cea53ea5ea961ce45f19d37c22f57eac124f772fdd386d1778da490d4c8b2b5b60f6b4662b5fbb2d94ffe4ebe77263921e03feaeff14d9510bbccbac7e3ba213e920186ce65a744fd0a6a7943feeba533cf32203d3f6cc (.lookup (.leaf (.int .i64)) (.agg [.i 0,.i 0,.i 0,.int .u64 0,.int .u64 0]) true (.t 14) (.t 15)) (.build [.i 0,.i 0,.i 0,.int .u64 0,.int .u64 0] [])
def c355:AFn:=⟨2,42,[.cellN 4 5,.tmp 5],yB 6 0x22441b5496a42bdfed9310112c c355_2⟩
def c356_2 :=yA 23 0xadceae5ca16b6f4258e06b5ede0dff8db9938590c50ba51e895c027b1ee13536ec2c2b87cea979a118942ae54a720c4e5ba34a6e245dc3eef100227082f719a7b5485265674dc5b9c4a62f926a86d2837171bc
def c356:AFn:=⟨2,23,[.tmp 4],(c356_2)⟩
def c357_3 :=yE 48 0x2ece0c1d2b848ada344d4af58976638006394d00a1ccf5fff6a16c7626d79a473657ea38257d4b9b6d6b6b3b60eb81e6831f7cad97b976bc0b8454810cd867f1d649b2e77b2f73e8b3438764acf0dcda5515f017c1a503174f148517bf757460591e1983fcc55d13dfba8f43bdfcbc98f26a067c510316bba21a20c3b9760247521618d1 (.maxI [(.c (.i 0)),(.t 25)])
def c357_4 :=yB 49 0x16ed45b41b32abadbb6d727cdfe4e04c88ba167e52d7f638109f0f9460cb191bc c357_3
def c357:AFn:=⟨2,49,[.tmp 4],yB 5 4789559279849628 c357_4⟩
def c358:AFn:=⟨1,5,[.tmp 2],yA 5 0x161cd6554fc7e15e358ec175ca64509c⟩
def c361_0 :=yA 14 0x573fbcb6111317440ec1761a49822362a8532113f7cab82e20a6c9e2c05da6e7c25ee0ef51c
def c361:AFn:=⟨2,14,[.tmp 3],yB 4 0xd9cdcdc9cf09c c361_0⟩
def c362_0 :=yE 8 0x97181ddba60b4efbf0d920060b3ddb1b56880c68f073dd106732334e10 (.eq .slice false (.t 3) (.c (.nils)))
def c362:AFn:=⟨1,8,[.tmp 2],yB 3 532661096604 c362_0⟩
def c363_1 :=yA 13 0x404468becfc215bc029fe1fae36844be8d77081adaf3cbe7490a321ef674e6164d9239a70d1704cef32c520253644550177a728c204e9f673b12c
def c363:AFn:=⟨2,13,[.tmp 4],(c363_1)⟩
def c364:AFn:=⟨1,5,[.tmp 2],yA 5 0x161cd6554fc7f1517d2ca7b5ca64509c⟩
def c367_1 :=yA 13 0x378fbd8c87ae5d63eda6ea4bb54394893415caaa81427aa8f640be48af07667d654cd0e19d5f534550177a728c204e9f673b12c
def c367:AFn:=⟨2,13,[.tmp 4],(c367_1)⟩
def c379_2 :=(uF (fun a b c d e f g=>jA 19 0x11e53280c22c52cb34a1453d933eeb1a1141fac7c989afd49bb162e81e3e647e89e6426abd2a4aa6ba1e6e716ab670f5dfa0ecfe99d36f9114abdfacb65c848f50ba94c73434e10 4 3 0 [a,b,c,d] [e,f,g] []) _) (.int .u32 65536) (.int .u64 16) (.int .u32 256) (.int .u64 8) (.convInt .u8 (.t 14)) (.ixStr (.c (.str [0,1,2,2,3,3,3,3,4,4,4,4,4,4,4,4,5,5,5,5,5,5,5,5,5,5,5,5,5,5,5,5,6,6,6,6,6,6,6,6,6,6,6,6,6,6,6,6,6,6,6,6,6,6,6,6,6,6,6,6,6,6,6,6,7,7,7,7,7,7,7,7,7,7,7,7,7,7,7,7,7,7,7,7,7,7,7,7,7,7,7,7,7,7,7,7,7,7,7,7,7,7,7,7,7,7,7,7,7,7,7,7,7,7,7,7,7,7,7,7,7,7,7,7,7,7,7,7,8,8,8,8,8,8,8,8,8,8,8,8,8,8,8,8,8,8,8,8,8,8,8,8,8,8,8,8,8,8,8,8,8,8,8,8,8,8,8,8,8,8,8,8,8,8,8,8,8,8,8,8,8,8,8,8,8,8,8,8,8,8,8,8,8,8,8,8,8,8,8,8,8,8,8,8,8,8,8,8,8,8,8,8,8,8,8,8,8,8,8,8,8,8,8,8,8,8,8,8,8,8,8,8,8,8,8,8,8,8,8,8,8,8,8,8,8,8,8,8,8,8,8,8,8,8,8,8])) (.t 15)) (.convInt .i64 (.t 16))
def c379:AFn:=⟨1,19,[.tmp 2],yB 3 0xa53036736509c c379_2⟩
def c386_1:AC :=
 sQ (rG [qQ 0 2 (.alloc 1 [.bool false])] [0,2]) (sQ (sQ (rG [mV 0 3 0,aA 1 4 391 3] [0,2,4]) (cD 4 (rT [.mk4 0 none (.store 1 (.t 2) (.c (.bool false))) none] [2]))) (sQ (sQ (rG [mV 0 5 0,aA 1 6 392 5] [2,6]) (.block 0 (.rangeFunc (.t 6) [7] [2] (.skip) (.block 1 (rT [.mk4 0 none (.store 1 (.t 2) (.c (.bool true))) none] []))))) (rT [.mk4 0 none (.store 1 (.t 2) (.c (.bool false))) none] [2])))
def c386:AFn:=⟨1,8,[.cell1 2],(c386_1)⟩
def c387_0 :=yA 8 0xdbd1dd0e5c079b7cc95fe2aa3c21a46bf9428d09c
def c387:AFn:=⟨1,8,[.tmp 2],(c387_0)⟩
def c388_2 :=yE 22 0x286070573beba0fd5b4c0d84adc7e0a016cd9d05f511829c43c024160fc4fcc4394d163c958e9342b9dd170b867f26079a793624147ae853d88edc44a78c10fb86905518f76deb5e4e5509c (.build [.i 0,.i 0,.i 0,.i 0] [(0,1,(.t 17)),(1,1,(.c (.i 3))),(2,1,(.t 18))])
def c388:AFn:=⟨3,22,[],(c388_2)⟩
def c389_6 :=(uF (fun a b c=>jA 52 0x61e8ed2d7d70bcccf05f24f56d2f36cfe1ed6ab34d2c603d79101fbe1f1a85a43263a0c4eb63c52e0500ce591bf85305245f0530699ee4455402f8bf14d14283ace0315a107d1890c99e5546dcdd00441022fb7c8f30da8aafef6f35e0ed085df006289e6625a152cdaa1b7941a5b8a0804efa104f2d51b4b332633c03065c993784b829106e2d99a05fe61a11e363f7c5135c4d00baa04ac5e4e57bcc4b882effc9214f9573af02cfd8db09c 0 3 0 [] [a,b,c] []) _) (.build [.i 0,.i 0] [(0,1,(.t 38)),(1,1,(.c (.i 2)))]) (.build [.i 0,.i 0] [(0,1,(.t 46)),(1,1,(.c (.i 4)))]) (.build [.i 0,.i 0] [(0,1,(.c (.i (-1))))])
def c389_7 :=yB 22 0x26e272a041df9baeac0aafc6117515314f0ec0c7efed3b63677a7e9a036cc c389_6
def c389:AFn:=⟨3,52,[.tmp 6],yB 7 0x17d6b92b404d09c c389_7⟩
def c390_0 :=yA 11 0x1433d47b765c8d1f3ac6fc242ff1c843031a9b9ec55
def c390:AFn:=⟨2,11,[],yB 4 0x35fccc57fc709c c390_0⟩
def c391_0 :=yM 12 0x28acf3629c132e18fa91427e983a6c4f35b1616f5ac (.eq .ptr false (.t 3) (.c (.ptr none))) (.eq .ptr false (.t 9) (.c (.ptr none)))
def c391:AFn:=⟨1,12,[.tmp 2],yB 3 532422217884 c391_0⟩
def c392:AFn:=⟨1,4,[.tmp 2],yI 4 0x3e74bc8c76a4aa590df662612c (.nilfn) (.mkClo 396 [(.t 1)])⟩
def c393_4 :=yE 40 0x43a7781ea0473b0d88b36ece5902d3d7b9282ee0a2ee896d2e4e6352a855befb720c910ef95e8a1d5934aae629f2f749ccffea93cc3d8e8b6c6a5959a2aa6da309e66e0006405a1f0d1bd8fa9a5a5f96c4b96addd61be8814046c48d185407831a860c1a7634d50231800f61e0a2231fd65d8d24b7d1a55b0c1370fcd9fe7917ffbf939bff1cd658cdb482c78d4d0 (.build [.i 0,.i 0,.i 0,.i 0] [(0,1,(.t 31)),(1,1,(.t 33)),(2,1,(.c (.i 256))),(3,1,(.t 34))])
def c393_5 :=yC 12 0x813aa2f5737bc353117b7fe9dfbfd00ed2976154fbe7e86b7b45a8ca (.label 0) c393_4
def c393:AFn:=⟨2,40,[.tmp 4,.tmp 5],yB 6 0x163572952141eb112c c393_5⟩
def c394_3 :=(uF (fun a b c=>jA 74 0x9588124033ea7d03b28de881b0dc7fcb1d6c7b7d158ac9e33f5bf261dc1c8d51fa955b4a544ebd085996c71be3e5102196972332e0c92be8579287a3b15b33ff98c503fd7cad8ee3cd8e408cdd87bf0b608f72e62b0459f3901b7f070829bd23d3dd10e339cc9840a721296063fc782fff28ec04aea87e684cc99538d39cbca1da4a8 0 3 0 [] [a,b,c] []) _) (.lookup (.agg [.int .i64,.int .i64]) (.agg [.i 0,.i 0,.bool false,.int .u64 0]) false (.t 44) (.t 45)) (.mput (.agg [.int .i64,.int .i64]) (.t 62) (.t 63) (.t 64)) (.mdel (.agg [.int .i64,.int .i64]) (.t 72) (.t 73))
def c394_9 :=yA 19 0x34a1c9acb4121259e163a7eb8441e08ab2435e18615501929627c94b5881513b50a02a09e02caa270d651bc
def c394_10 :=(uF (fun a b c d=>jA 76 0x36037a06128bf6f73308f3c19d3a1b611673202273691d0b3bd03ff21abcce2a525ea6306cfebffe3a76cd4fd396bf57378aec58eb6c7bc8d19ee07ebb6c0236f38c162ff8c3f4f66984b3a74e110fac5cae2d821763b3893dedac6e718d0c5142e8b34c193400a720a48bd57b01986fe4306d7127725ccf03c7de7d888ec26da6fb0f4ff00f36c 0 3 1 [] [a,b,c] [d]) _) (.minI [(.t 25),(.t 27)]) (.slice 4 (.t 24) none (some (.t 28)) none) (.build [.i 0,.i 0] [(0,1,(.t 37)),(1,1,(.t 39))]) c394_3
def c394:AFn:=⟨3,76,[.tmp 6,.tmp 7],yC 8 0x1a576e82a4b37c29fb95512c c394_9 c394_10⟩
def c395_3 :=yA 67 0xc1be63d37ed637cac7881ad03247bc42276dc6d181b8498ebf3af13529a5c711173607fbde5f0fb36e5ccdb2696434ab64d72ecf1006405cb8b3c704dbcfa00ea1e3a20c593c36fdf47464803cd5f41b27736d91202e96cf65a68715874ce1cadd39d5915c7391ad916d295d4a784cae147ba55d86675bc14056d5930df88e7e47a2136d59bb42bb5ba5d87ccc678895fc2730be2e150
def c395_7 :=(uF (fun a b c d e f=>jA 69 0x3d1cecc4d52147bff73dc24c13991c69e9aacff1c4d540dd813527e4bc0f9b71ba1ae43caf56fa0188ff7c3ffdda479c5d388c7920849ba5942dbd0e5267305723b3bdca644124479d188efcc8c5bc6f1ec15ddb9b15be8300b793b14636b036d22424d8faf50a28b9a1b06eb5a20fd881669bfddfb29cf0393f0af35a2be9049774f8fd3c16cadb90 0 5 1 [] [a,b,c,d,e] [f]) _) (.build [.i 0,.i 0] [(0,1,(.c (.i 2))),(1,1,(.c (.i 1)))]) (.build [.i 0,.i 0] [(0,1,(.c (.i 4))),(1,1,(.c (.i 2)))]) (.build [.i 0,.i 0,.i 0,.i 0] [(0,2,(.t 9)),(2,2,(.t 10))]) (.ixA 2 2 (some 2) (.t 11) (.t 12)) (.build [.i 0,.i 0,.i 0,.i 0] [(0,1,(.t 28)),(1,1,(.t 30))]) c395_3
def c395:AFn:=⟨1,69,[.tmp 2],yB 4 0x12dd3e71ef50e58bbf7612c c395_7⟩
def c396_3 :=yE 28 0x2ef40a075e4909fb20d8a9add23c96f958b2d6bed5634dc9098916be1a243dd2732b92044b69ee008df77e86124a92e48e17309f7b9f8e6007bfc0e132f01cec1ad0d6baba7675b1419500648f90008f4c8ef99ab049fab4a2b2d3dd9972c82c715d7fc0d569d510caae24c03050596724c (.callv (.t 22) [(.t 23)])
def c396:AFn:=⟨2,28,[],(c396_3)⟩
def c398_1 :=yG 100 0x1e6e87c7a6cd4773cf6ceb0c1117dbf63875412cb4909e5626c0f5e1da1b38e2a8232aadac8d6339ef654bf36ab9b0f0145ef336f4caa3312e5f94f892fecce162932a55dadc16addf23a93d0fec7268e435889058f7aeb5f86df8b7414873acb26293f9e931d7ecb791ccd6419fe8b4575b3c6fc3ed7c6e7bbe295150e910 (.i 128)
def c398_5 :=yB 72 0x3bd4b93b37c21ea84432951470c49fbb44d4d5c21900d8f4b188a91e8e28b4396cf284f8387026ccba4953e205fd390fa70975dfb455b003cebaf15296804f7682fba46252ed97966699f845803ffc563d683301a2ff1ab5a7598506c4043e29be67414fb7da928 c398_1
def c398_7 :=(uF (fun a b c=>jA 41 0x3903b3ca64d5143fdaf73fca0364b97a0b5ba73f3f1430ea9ac2a954c835e3ff6af7ba4be6cb163e08dff7cb0152444fc5fbd6475a9ef74ce8a8bd6bc8613b9e5bd165c7f671090f1ca1c5819f0fbd3b87a7730deec48fb94e717549505ee14e2e5a6581f45a6913db968c1e0650803d8697647a318bfad5c864df6e8e2edf2e2830b53853360047685d6762d8dc8c8cce3f283efec4b8 0 2 1 [] [a,b] [c]) _) (.lookup (.agg [.int .i64,.int .i64]) (.agg [.i 0,.i 0,.bool false,.int .u64 0]) false (.t 13) (.t 14)) (.build [.i 0,.i 0,.i 0,.i 0] [(0,1,(.t 17)),(1,1,(.t 19))]) c398_5
def c398:AFn:=⟨2,100,[.cellN 4 4,.tmp 5],yB 6 0x66f83e8e8fbca173a75820cac31bc c398_7⟩
def c399_2 :=yE 109 0x7be517d57a14af9390e7081dad8c620cd4ff4a239cf70beddbd4b8d4b38202c00e40100e02785d624d8fd750491c10d2ec0a5fcae7d3d23141e97501449d483b938f7c68e0719ad521c2444ab44d9931746be427bc0bc254ccc7f1850 (.mput (.agg [.int .i64,.int .i64]) (.t 106) (.t 107) (.t 108))
def c399_7 :=yJ 84 0x88ef3fcb12e7fd8c4998a1a5572b28588252897e22c76969a48fccca29dda38890413eaa0600ef05f91a3fba36f0a04203f0685c36fa3f5b3a667eea089cd28 (.i 56) (.build [.i 0,.i 0,.bool false,.int .u64 0] [(0,1,(.t 69)),(1,1,(.t 72)),(2,1,(.c (.bool true))),(3,1,(.t 82))]) c399_2
def c399_8 :=(uF (fun a b c d=>jA 122 0x173926ce93fc93ea8f2980f237f8033080b5873f0d65d68396320226163a394a7a89ce2ebd34ffeecbb8fd58f1728f096611623f157afce3f4c397357b8f50798952d58182b27757438bd4a23e1e4d68031d7c1155c508edaf658c2473a82edaa7670456a686429c845b1ec60027c255d4cda0894e22902ddd04b067f2dc 1 2 1 [a] [b,c] [d]) _) (.i 151) (.mdel (.agg [.int .i64,.int .i64]) (.t 120) (.t 121)) (.mput (.agg [.int .i64,.int .i64]) (.t 61) (.t 62) (.t 63)) c399_7
def c399_13 :=yB 50 0x7b7777aef7068f7102089bbf058465a662eba3546af20e9b8046809ad16d66e15e8f13741ff64a971e06f225e276f9931d4f200c088f252f9ca9021de5db72fde63189be3f941dd0941a71d8cac6a061854f733f31d5561e0bf321b0e78ac35b23005d9e0cfa00ced5be2e71243aacaf7c51d939666ab4f4bd4a33432845be995e4241dcd0bb5e4cdf324b6d8d64439d92c757ff4445078560c52f34e509c c399_8
def c399_14 :=yF 20 0x1318a0df07799393c14b0693d868197826915522674a2165688af779c8001bd8a296fe0b3e2bfd14493fc (.build [.i 0,.i 0] [(0,1,(.t 13)),(1,1,(.t 15))]) c399_13
def c399:AFn:=⟨2,122,[.tmp 4],yB 5 0x5bbfb66e8e7c28512c c399_14⟩
def c400_3 :=yE 48 0x2ece0c1d2b848ada344d4af705bda30444396e9eee202f0ec146a2240dd5c483f09b0c43bb5818b4b48db409308acd79063dff29adeee1d66209a12295fd8a85fefcc16215a81d2aac747131e3f0dcda5515f017c1a503174f148517bf757460591e1983fcc55d13dfba8f43bdfcbc98f26a067c510316bba21a20c3b9760247521618d1 (.maxI [(.c (.i 0)),(.t 25)])
def c400_4 :=yB 49 0x16ed45b41b32abadbb6d727cdfe4e04c88ba167e52d7f638109f13409af0191bc c400_3
def c400:AFn:=⟨2,49,[.tmp 4],yB 5 4789559279849628 c400_4⟩
def c401:AFn:=⟨1,5,[.tmp 2],yA 5 0x161cd6554fc898cbed269955ca64509c⟩
def c402_0 :=yA 11 0x12ee82472db1c9f17b575da67a5f078df4ac35a0644da196f493cd64e10
def c402:AFn:=⟨2,11,[.tmp 4],yB 5 0x5bbfbc4c402005d12c c402_0⟩
def c403_3 :=yE 45 0x2ce44b11c695a008ab5acfba79c1623436bd63c0c0150e417764d0900606fd34ff25066f9fa6c6e7103bcf2de8c0d9c3cccee7070af38b1708b8dbb7923770a1b3cc133632ff9557f30f5b8d48845956ee2af603f5914b5c4f7bd727c3ec7e6afb933a34ad97d6e1588a479052d1959d6e46b638230d25098cdcf04ff8ad5e16a9c8fb6a8 (.lookup (.agg [.int .i64,.int .i64]) (.agg [.i 0,.i 0,.bool false,.int .u64 0]) true (.t 14) (.t 15))
def c403:AFn:=⟨2,45,[.cellN 4 4,.tmp 5],yB 6 0x66f83e8e901fb211303620cac31bc c403_3⟩
def c406_0 :=yA 13 0x198e4551aeefd3578c572dafc437862973fc
def c406:AFn:=⟨2,13,[.tmp 4],yB 7 0xc0b0b69a2cf3d1d39553c30a0786b53f660e0cc909c c406_0⟩
def c407_4 :=(uF (fun a b c d e=>jA 31 0x39df0bc689ef17872395b1da01db13f938e4e2f3f7bef75e2a97ad3a4f94de43800b4cdede9073ec6f7074c70410a4cf2bfac0ed9207f3e69d633cefd07ba537d0849bbffb56dd29d56fd62ef3bbcff705209746f37293f467bea2c1159f16798281fddd8dfea4b37b7e4e45c5b90 1 4 0 [a] [b,c,d,e] []) _) (.i 127) (.callv (.t 20) [(.c (.i 1))]) (.callv (.t 22) [(.c (.i 6))]) (.callv (.t 26) [(.c (.i 2))]) (.callv (.t 28) [(.c (.i 60))])
def c407_5 :=(uF (fun a b c d=>jA 41 0x17c4626eb8bd3a435c346e25b448e3f2b8c9ae5cb74455763c 0 4 0 [] [a,b,c,d] []) _) (.callv (.t 31) [(.c (.i 4))]) (.callv (.t 33) [(.c (.i 8))]) (.eq .bool true (.t 32) (.t 34)) (.callv (.t 37) [(.c (.i 48))])
def c407:AFn:=⟨1,41,[.tmp 2],yN 5 0x3406d368e5e5807ec2a8817ac1e12c (.mkClo 411 [(.t 1)]) c407_4 c407_5⟩
def c408_0 :=yE 8 0x97181ddcc91a3491b72c9e3d4fbd7c7f08080c68f073dd106732334e10 (.eq .slice false (.t 3) (.c (.nils)))
def c408:AFn:=⟨1,8,[.tmp 2],yB 3 532661096604 c408_0⟩
def c409_1 :=yA 13 0x48af629b547466a0ec33a3364c630d6968d98150436bce8bf90807eb1fbcf675368885194c3f4fd125b704e30a7e1e3644550177a728c204e9f673b12c
def c409:AFn:=⟨2,13,[.tmp 4],(c409_1)⟩
def c411_0 :=yA 9 0x3a6f8dc524efac4a65d57edbef23c3d3f6a008c703a709c
def c411:AFn:=⟨2,9,[.tmp 3],(c411_0)⟩
def c428_0 :=yA 16 0x9bb1682da5d0f9cc6025e7793347ad1640b6b7ba10c448b58c115851c42b31c279e91dd9a04c86fa32b718302251878f5a0d336cc
def c428:AFn:=⟨2,16,[.tmp 4],yB 5 0x59cba388ab2e3e312c c428_0⟩
def c429_5 :=(uF (fun a b c d=>jA 60 0x1de2c840ece3b9ec9ac2cfa32efbf7287626aa1e20eeb8372032bf944a17c9d0a6402f33d49b42fba5687dc1558b2d81feb15faa31474c696d5a73556b221459c3c3e0a0ba9d28f2722495e6f7734c51ab3d73fce2ca61d2e67b9571a6333007963c329d695f69861a91fa02fd9c7559ed4cf728ab601aec8329d7cd9ec3ac7e11c8aae3dd8db154e69f7b21cf15b90 0 4 0 [] [a,b,c,d] []) _) (.lookup (.leaf (.int .i64)) (.i 0) false (.t 42) (.t 43)) (.mput (.leaf (.int .i64)) (.t 42) (.t 43) (.t 45)) (.lookup (.leaf (.int .i64)) (.i 0) false (.t 54) (.t 55)) (.mput (.leaf (.int .i64)) (.t 54) (.t 55) (.t 57))
def c429_7 :=yJ 35 0x300400a662f51e0108c92877ebe33ebada3224e292bf8d625bed172738bd7c109d3b36b799ff12f8fa7f3a404dd00362866f24f4fe4cb7b9a465ac3f6816648cd385e59a38f175183e81ba99e2fb3e6f35c6536bc868ce49d76f2aa5e27681d8eb45f37205a7ebf366c87ee4154bc3583bad5f4e438 (.map none) .mkMap c429_5
def c429:AFn:=⟨2,60,[.tmp 4,.tmp 5],yH 6 0x8ca37d0206337c07e011bc (.map none) c429_7⟩
def c430_1 :=yA 29 0x1c687802fc850e60be1135960845c70f34935396968b4a69c3988d9509fa97c222e48b09f67efb25876f8a1f883e2ae0bdd7873dc2c7a7513c952d099e1691dd46826c72216ce590c
def c430:AFn:=⟨4,29,[.tmp 8],yB 9 0xad17864eef10e2f1db6c131bc c430_1⟩
def c431_0 :=yA 10 0x6673dc282223f671da9bcac98e6fe0b48b305ef36c
def c431:AFn:=⟨2,10,[.tmp 4],yB 5 0x5ec5c974dd767a303531bc c431_0⟩
def c432_4 :=yA 73 0x20fe17706e574f77b1603fe7a6fc547fb5445668256ff2ee7e3aec59a5daf7a7401650b29bb2804b3fc
def c432_10 :=yB 70 0x13e653137d5cb90cb4f71d67f6c1ede6aff13abed75d29932cd0bfda5706b7b8f9eee563743f97ed6c35534df746dba4fa7e3444e1ba5b87650ccb9d5189862d018b86d4b7183d832bd8a09f289df87333178883b3be498838c0cc75a40d37b33d16b5e6aa4944b17684adab9e849ed1cfe363e19a8fc2b9474698cf0ee8c94a1614972c4c012efd93e00bf46d8c25903b90b1dcbbd92e59489597bd97aea5b9626e1027ff2066cf925ccdb90 c432_4
def c432_11 :=yF 36 0x77d59dfffe46e963c85223cdf6a11a6095a604b873d84fa4a5da672a940484a4bed002f933bd5a3f39d5f2968602fbdc7adf00b200cd17410cab727f3e5c133aa55f602d01930ab19e60d09bd56f7fba9553ad09b67c8de627833589c87fa6f3f9dd792343a9db913f214c9419eead5740b2e06c219929ad8317fed182355e40332657f509d0d7b12994ea9f45da4bc1a2804473aa4b52681e172cb322792c4ca5e23bb6ff1eda62a9bdd93ed6df7676d3c264809b7cab7e93fc (.eq .ptr false (.t 15) (.c (.ptr none))) c432_10
def c432:AFn:=⟨4,73,[.cellN 8 2,.cellN 9 2,.cell1 10,.tmp 11],(c432_11)⟩
def c433_0 :=yA 6 0xafdb17cc89b031773ae807e3b2ea83416f1b2ce12c
def c433:AFn:=⟨1,6,[.tmp 2],(c433_0)⟩
def c434_0 :=yE 16 0x32188e6ef92aed7e713a8ed08f5aec6a31040bfab9bb2feedaeb24d9b416d31f7e68b9b2bf3536cc (.build [.int .u32 0,.int .u32 0] [(0,1,(.t 9)),(1,1,(.t 14))])
def c434:AFn:=⟨2,16,[.cellN 4 2],yB 5 0x104763ab825402980a4303531bc c434_0⟩
def c435_1 :=yA 15 0x10cf3e8f14727ad8cc95aa87874267edef2160a132354050059df3b36ca0e8b24b77edf3d9588914b667543f58f5f0567bdae649d4d0
def c435:AFn:=⟨1,15,[.tmp 2],yB 3 0x2cda1dfb2ce12c c435_1⟩
def c436_2 :=yF 23 0x7f025f6bd5b0ce306fba123960152faf3933ee08e1df70e231d642765b2718134bc73976ee85deba8def2f6359a3cec3063000fc6724b7d29d2cda7b8f8f91561a50bf5c9c9daa2dac9bf0ae7e6bed828cae763a6dfb24c (.field 0 none (.t 19)) (.label 0)
def c436:AFn:=⟨4,23,[.tmp 8],(c436_2)⟩
def c437_0 :=yI 8 0x1290ec49185ab4ce522a1666b2bf24f86ad31f24c (.nilfn) (.mkClo 440 [(.t 4),(.t 5),(.t 3)])
def c437:AFn:=⟨3,8,[.tmp 6],(c437_0)⟩
def c438_1 :=yA 29 0x10dd8a95a64b6337d9b53eeab38bac2d1af1096b51ecc284a3bcf9a76c6e32db6664bbe63cdd62d289053966c5c14a3a695c48d560723c03a3ee26c0cd0f4d06ec0905de91f2a754adbc46ec79a9123424073fbe78c2f68410
def c438:AFn:=⟨1,29,[.tmp 2],yB 4 0x12da2e749182455db21612c c438_1⟩
def c439:AFn:=⟨1,4,[.tmp 2],yI 4 0x3e74bc8c76a4aa590df72ce12c (.nilfn) (.mkClo 443 [(.t 1)])⟩
def c440_3 :=yE 35 0x6af30f05d7e93f91a2fd64c095a047251c9d3ae1b8600f5cc071bcc2c23c04cdfacd4332a9336545a9908ee852c8cce7ec3442fddacbaa9cdb53fbb3c9c388cb74e5e17cb9577e05687c51581e9ae76b0518bfe16e25df245341a330ea7ed755ae6496ee370b74403fd155dea0a1beab0bba9c77e6c57f156f7c9f639ffb8e1a7e0a99e0578e42e8a001f59259445a2ed1f8987284ab649523a6f0ca26eab48c (.callv (.t 29) [(.t 30),(.t 31)])
def c440:AFn:=⟨4,35,[],(c440_3)⟩
def c441_1 :=yA 16 0x2ce6030e8ea8c74b70fffc49b9a8d7fdcb34a68fe1dd942a6d433bc1b5664c83fbe7bd9f6554a9f23a57199b01ee7ba71e87d42b0d51e0627ce10
def c441:AFn:=⟨2,16,[.cellN 4 2],yB 5 0x104763ab82540297c78513531bc c441_1⟩
def c442_0 :=yA 18 0x343cd2cc69dcb4c20f70477b362b52ebd86da48f7a1fe488ee915c0be82bf524151618088a737ec
def c442:AFn:=⟨2,18,[.tmp 4],yB 5 0x59cba388ab2655312c c442_0⟩
def c443_1 :=yE 17 0x20197304539dcf13cf7b7d2ee57ecd8c07c03b65eaee1653bcbd7560b37b09b59ac3adaeaba08e2e24ad6d5f13d638107e7e10540c43d2fec709c (.callv (.t 11) [(.t 12)])
def c443:AFn:=⟨2,17,[],yB 5 0x131b60591b69a41909c c443_1⟩
def c444_1 :=yA 17 0x104620ca25634dc9c3fc31752185db39e2fc57b2f3cabce8550f08f9ff2da4f5807e620bc2f15c36e2cd8f80733c8f45db98ce2a5bb81774dd1306963efb12c
def c444:AFn:=⟨2,17,[.cellN 4 2],(c444_1)⟩
def c445:AFn:=⟨2,8,[.tmp 4],yA 8 0x4ca912ac4b8d792501ac6a0ef74335b925109c⟩
def c446_4 :=yI 64 0x194980ba1796a8726c8753ed66a5030247d12fd0c2153fd9cc656ac22c080e22bb1503a9520fec9672f36ecfd6140bfa8fbf7aaea328c60d451093d896b353e9676c152efc10623c31c1b4c514ef61773a4cf6ce27d5459e71e91fcc72f2540d52544b331ec81223cdbc4d67a54dc031106f86d185de78b689577f5f040de98b77e0bb9ef9843dbb0b94edaf1be7684fe2b960369634643efd0 (.map none) (.mput (.leaf (.int .i64)) (.t 57) (.t 62) (.t 63))
def c446_8 :=yF 67 0xe8cb59428f4f74d74c112920ac3da99207264d5b7a72dcf772c25dcc233605b0f789c00eac7c61eb57092728d27f34ab08bd3b1845ba455105ef858bb92c34293e0916ab7eccddc37697c6425d6c42d00510ee30d149595a022eb93b8d3d4c9b45be19c6b203cfe98fe49c22b92d242da7343d8839c4f895ac .mkMap c446_4
def c446:AFn:=⟨2,67,[.tmp 4,.tmp 5],yH 6 0x1635729522d097112c (.map none) c446_8⟩
def c447_2 :=yB 18 0x15164320207d5e69c65ae05844089960a6e5d1f434bbe336bfd551211191cea311204a70d30d7fd0209040d5159995d4d0f7cc44947051a47feecaee9b7b978370bd8e1780a0c492f165e954e9cabb4304aca (.label 0)
def c447:AFn:=⟨2,18,[.tmp 4],yB 5 4789558881718428 c447_2⟩
def c448_3 :=yE 31 0x98f973949ff52f901552e6430b4ff6df6b0a8495bd20ed25da27828386bfbbdd2dba743548700dddf528b2771b1383667e1ebf3e59ba41cf0098cf6045c0e1a0b978cb5bd95dad684d894a65531afaf9bdcc2be36a82f43e69f260d416cf8d1b7b5321d2ad715feff1c627a8014ab34c50a5b895b0a62588ce0d12518df200bf5b90 (.minI [(.t 26),(.c (.i 1))])
def c448:AFn:=⟨2,31,[.tmp 4,.tmp 5,.tmp 6],yB 7 0x1c2e621d6ba304737e11bc c448_3⟩
def c449_2 :=yK 23 0xc4ec2ffaf3d612fcabdee395cae0cc470ba714838ea0314b000278e1170c43f58cae3fb8ed363a81d626f6fbdc393c72d5f65005e412e369d771f2f9259c9eb405824c7b46de5d128b99e48c36f58ea6a210fd69e5bc6ff183154d0 (.i 25) (.i 28)
def c449:AFn:=⟨2,23,[.tmp 4,.tmp 5],yB 6 0x163572952108f7112c c449_2⟩
def c450_3 :=yE 23 0xaf20e8149765065d10476d7c174910e9e43693a373d7d5f3d0b9e288cd80131b4db472ba309fc5195c3f1c248edd31e654c522c9f822e79ae345b3e658076d4486137f267a9e31d8ba37ddd399e8be5f5c7c96fe378746527bed9c583bf71f238eb589fc83128f89a01d8bbcbac46f814e10 (.eq .ptr false (.t 7) (.c (.ptr none)))
def c450:AFn:=⟨2,23,[.tmp 4],yB 5 4789558483587228 c450_3⟩
def c451:AFn:=⟨2,6,[.tmp 4],yI 6 0xe5fb396e23889bd7ad9a4fec438fe311bc (.nilfn) (.mkClo 452 [(.t 3),(.t 2)])⟩
def c452_2 :=yE 19 0x89d387cd7e0c4818c96c762018b0c59fc30af916fa5002e00c7630ee4b9b2faa01ab1ecb6c03f2d5550d711d6358ca9783c226bc0c0ad7cc0686624d63cb45b62040bd5307fa075c411bc (.callv (.t 12) [(.t 15)])
def c452:AFn:=⟨3,19,[],(c452_2)⟩
def c453_5 :=yA 42 0x51430d081e583798444191987a1f321b8cd27ea1445d84aaadb3e5d0c65ab4397df3797ee7ae26b3a80af05f5ee12d43c2468aa14c10d07a24a5b90d46c9c864e3c36bb84db019a6c35d47ec6573667611070d349183cbe15c5d22976c8904acbf8ca2502a2750766926f5df449cc4131f658156c83c7d28e6d20230d4885d3e52287a4e26603dc2cbdf3309810505a7cc78256260fd16600d419c30459a94870270
def c453_6 :=yB 43 0x4a336442c7ffbafb318ab14b3d1f4051d483b446b26a4ede7e816d98884fa135db1a2a4a499c1736c c453_5
def c453:AFn:=⟨2,43,[.tmp 4],yB 5 0x5bbfb66e8e743f512c c453_6⟩
def jaK:Prog := { fns:=[(5,c5),(6,c6),(15,c15),(18,c18),(20,c20),(21,c21),(22,c22),(26,c26),(33,c33),(35,c35),(36,c36),(37,c37),(38,c38),(39,c39),(40,c40),(45,c45),(49,c49),(50,c50),(51,c51),(52,c52),(53,c53),(60,c60),(65,c65),(66,c66),(67,c67),(68,c68),(69,c69),(70,c70),(71,c71),(72,c72),(73,c73),(74,c74),(75,c75),(76,c76),(77,c77),(78,c78),(79,c79),(80,c80),(81,c81),(82,c82),(83,c83),(84,c84),(85,c85),(86,c86),(87,c87),(94,c94),(97,c97),(99,c99),(100,c100),(101,c101),(102,c102),(103,c103),(104,c104),(105,c105),(106,c106),(107,c107),(117,c117),(118,c118),(119,c119),(120,c120),(121,c121),(122,c122),(123,c123),(124,c124),(125,c125),(126,c126),(127,c127),(128,c128),(129,c129),(130,c130),(131,c131),(132,c132),(133,c133),(134,c134),(135,c135),(136,c136),(137,c137),(138,c138),(139,c139),(140,c140),(141,c141),(142,c142),(143,c143),(144,c144),(145,c145),(146,c146),(147,c147),(148,c148),(149,c149),(150,c150),(151,c151),(152,c152),(153,c153),(154,c154),(155,c155),(157,c157),(158,c158),(165,c165),(166,c166),(167,c167),(168,c168),(184,c184),(185,c185),(186,c186),(187,c187),(188,c188),(189,c189),(190,c190),(191,c191),(192,c192),(193,c193),(194,c194),(195,c195),(196,c196),(203,c203),(204,c204),(205,c205),(206,c206),(207,c207),(225,c225),(226,c226),(227,c227),(233,c233),(244,c244),(249,c249),(257,c257),(259,c259),(298,c298),(299,c299),(301,c301),(302,c302),(303,c303),(304,c304),(305,c305),(306,c306),(307,c307),(308,c308),(309,c309),(310,c310),(311,c311),(312,c312),(313,c313),(314,c314),(315,c315),(319,c319),(321,c321),(324,c324),(326,c326),(327,c327),(328,c328),(329,c329),(330,c330),(331,c331),(334,c334),(335,c335),(364,c364),(367,c367),(379,c379),(406,c406),(428,c428),(429,c429),(430,c430),(431,c431),(432,c432),(433,c433),(434,c434),(435,c435),(436,c436),(437,c437),(438,c438),(439,c439),(440,c440),(441,c441),(442,c442),(443,c443),(444,c444),(445,c445),(446,c446),(447,c447),(448,c448),(449,c449),(450,c450),(451,c451),(452,c452),(453,c453),(3,c3),(4,c4),(7,c7),(8,c8),(9,c9),(10,c10),(11,c11),(12,c12),(13,c13),(14,c14),(16,c16),(17,c17),(19,c19),(23,c23),(24,c24),(25,c25),(27,c27),(28,c28),(29,c29),(30,c30),(31,c31),(32,c32),(34,c34),(41,c41),(42,c42),(43,c43),(44,c44),(46,c46),(47,c47),(48,c48),(54,c54),(55,c55),(56,c56),(58,c58),(59,c59),(61,c61),(62,c62),(63,c63),(64,c64),(88,c88),(89,c89),(90,c90),(91,c91),(92,c92),(93,c93),(95,c95),(96,c96),(98,c98),(108,c108),(109,c109),(110,c110),(111,c111),(112,c112),(113,c113),(114,c114),(115,c115),(116,c116),(156,c156),(159,c159),(160,c160),(161,c161),(162,c162),(163,c163),(164,c164),(169,c169),(170,c170),(171,c171),(172,c172),(173,c173),(174,c174),(175,c175),(176,c176),(177,c177),(178,c178),(179,c179),(180,c180),(181,c181),(182,c182),(183,c183),(197,c197),(198,c198),(199,c199),(200,c200),(201,c201),(202,c202),(208,c208),(209,c209),(210,c210),(211,c211),(212,c212),(213,c213),(214,c214),(215,c215),(216,c216),(217,c217),(218,c218),(219,c219),(220,c220),(221,c221),(222,c222),(223,c223),(224,c224),(228,c228),(229,c229),(230,c230),(231,c231),(232,c232),(234,c234),(235,c235),(236,c236),(237,c237),(238,c238),(239,c239),(240,c240),(241,c241),(242,c242),(243,c243),(245,c245),(246,c246),(247,c247),(248,c248),(250,c250),(251,c251),(252,c252),(253,c253),(254,c254),(255,c255),(256,c256),(258,c258),(263,c263),(264,c264),(265,c265),(266,c266),(267,c267),(270,c270),(271,c271),(272,c272),(273,c273),(274,c274),(275,c275),(276,c276),(277,c277),(278,c278),(279,c279),(280,c280),(281,c281),(300,c300),(318,c318),(320,c320),(323,c323),(325,c325),(332,c332),(333,c333),(336,c336),(337,c337),(338,c338),(341,c341),(342,c342),(343,c343),(344,c344),(345,c345),(346,c346),(347,c347),(348,c348),(349,c349),(350,c350),(351,c351),(352,c352),(354,c354),(355,c355),(356,c356),(357,c357),(358,c358),(361,c361),(362,c362),(363,c363),(386,c386),(387,c387),(388,c388),(389,c389),(390,c390),(391,c391),(392,c392),(393,c393),(394,c394),(395,c395),(396,c396),(398,c398),(399,c399),(400,c400),(401,c401),(402,c402),(403,c403),(407,c407),(408,c408),(409,c409),(411,c411)],prims:=[(268,jb7)] }
theorem jiT:jbd jaK:=jbd.of (List.forall_mem_cons.2 ⟨Am.jiX,fun _ h=>nomatch h⟩)
def jqn:Prog := { fns:=jaK.fns,prims:=(57,pAdd jaK 100000 28 63 61 2) :: jaK.prims }
theorem primsA:jbd jqn:=jbd.cons (pAdd_F jiT) jiT rfl
def jqm:Prog := { fns:=jaK.fns,prims:=(397,jkC jaK 100000 28 403 1) :: jqn.prims }
theorem primsB:jbd jqm:=jbd.cons (pKeys_F jiT) primsA rfl
def prog:Prog := { fns:=jaK.fns,prims:=(353,pAll jaK 100000 28 265 361 2) :: jqm.prims }
theorem primsF:jbd prog:=jbd.cons (pAll_F jiT) primsB rfl
def cx:Cx:=⟨[(2,⟨.int .i64,1,8,(some (.i 0)),false⟩),(3,⟨.int .i64,1,8,(some (.i 0)),false⟩),(4,⟨.bool,1,1,(some (.bool false)),false⟩),(5,⟨.int .u8,1,1,(some (.int .u8 0)),false⟩),(9,⟨.str,1,16,(some (.str [])),false⟩),(23,⟨.struct [(0,3),(1,3),(2,3),(3,3)],4,32,(some (.agg [.i 0,.i 0,.i 0,.i 0])),false⟩),(24,⟨.int .u64,1,8,(some (.int .u64 0)),false⟩),(25,⟨.slice 5,1,24,(some (.nils)),false⟩),(27,⟨.struct [(0,3),(1,3),(2,3),(3,24),(4,25)],5,56,(some (.agg [.i 0,.i 0,.i 0,.int .u64 0,.nils])),false⟩),(28,⟨.slice 27,1,24,(some (.nils)),false⟩),(30,⟨.struct [(0,3),(1,23),(5,4),(6,24),(7,28)],8,80,(some (.agg [.i 0,.i 0,.i 0,.i 0,.i 0,.bool false,.int .u64 0,.nils])),false⟩),(31,⟨.slice 30,1,24,(some (.nils)),false⟩),(32,⟨.slice 3,1,24,(some (.nils)),false⟩),(33,⟨.slice 106,1,24,(some (.nils)),false⟩),(34,⟨.slice 160,1,24,(some (.nils)),false⟩),(36,⟨.struct [(0,33),(1,34),(2,31),(3,32),(4,3)],5,104,(some (.agg [.nils,.nils,.nils,.nils,.i 0])),false⟩),(37,⟨.slice 93,1,24,(some (.nils)),false⟩),(38,⟨.ptr 72,1,8,(some (.ptr none)),false⟩),(40,⟨.struct [(0,32),(1,37),(2,38),(3,32)],4,80,(some (.agg [.nils,.nils,.ptr none,.nils])),false⟩),(43,⟨.ptr 81,1,8,(some (.ptr none)),false⟩),(45,⟨.ptr 84,1,8,(some (.ptr none)),false⟩),(46,⟨.int .i64,1,8,(some (.i 0)),false⟩),(49,⟨.ptr 61,1,8,(some (.ptr none)),false⟩),(56,⟨.iface,1,16,(some (.nili)),false⟩),(57,⟨.ptr 110,1,8,(some (.ptr none)),false⟩),(58,⟨.ptr 123,1,8,(some (.ptr none)),false⟩),(59,⟨.map 3 28,1,8,(some (.map none)),false⟩),(61,⟨.struct [(0,43),(1,56),(2,57),(3,58),(4,59),(5,32),(6,37),(7,4),(8,4)],9,104,(some (.agg [.ptr none,.nili,.ptr none,.ptr none,.map none,.nils,.nils,.bool false,.bool false])),false⟩),(62,⟨.func,1,8,(some (.nilfn)),false⟩),(70,⟨.ptr 167,1,8,(some (.ptr none)),false⟩),(72,⟨.struct [(0,43),(1,70)],2,16,(some (.agg [.ptr none,.ptr none])),false⟩),(74,⟨.ptr 130,1,8,(some (.ptr none)),false⟩),(77,⟨.struct [(0,4),(1,3),(2,3)],3,24,(some (.agg [.bool false,.i 0,.i 0])),false⟩),(78,⟨.array 96 77,288,2304,(some (.agg ((List.replicate 96 ([.bool false,.i 0,.i 0]:List V)).flatten))),false⟩),(79,⟨.slice 137,1,24,(some (.nils)),false⟩),(81,⟨.struct [(0,78),(288,79),(289,74),(290,24),(291,77)],294,2368,(some (.agg ((List.replicate 96 ([.bool false,.i 0,.i 0]:List V)).flatten++[.nils,.ptr none,.int .u64 0,.bool false,.i 0,.i 0]))),false⟩),(82,⟨.array 96 3,96,768,(some (.agg (List.replicate 96 (.i 0:V)))),false⟩),(84,⟨.struct [(0,43),(1,3),(2,82),(98,3)],99,792,(some (.agg ([.ptr none]++List.replicate 98 (.i 0:V)))),false⟩),(93,⟨.struct [(0,3),(1,24),(2,3),(3,3),(4,3),(5,46),(6,25)],7,72,(some (.agg [.i 0,.int .u64 0,.i 0,.i 0,.i 0,.i 0,.nils])),false⟩),(106,⟨.struct [(0,3),(1,3),(2,3),(3,24),(4,25)],5,56,(some (.agg [.i 0,.i 0,.i 0,.int .u64 0,.nils])),false⟩),(110,⟨.struct [(0,34),(1,32)],2,48,(some (.agg [.nils,.nils])),false⟩),(111,⟨.ptr 187,1,8,(some (.ptr none)),false⟩),(117,⟨.iface,1,16,(some (.nili)),false⟩),(118,⟨.map 3 23,1,8,(some (.map none)),false⟩),(119,⟨.ptr 209,1,8,(some (.ptr none)),false⟩),(120,⟨.ptr 218,1,8,(some (.ptr none)),false⟩),(121,⟨.ptr 222,1,8,(some (.ptr none)),false⟩),(123,⟨.struct [(0,43),(1,117),(2,118),(3,119),(4,120),(5,121)],6,56,(some (.agg [.ptr none,.nili,.map none,.ptr none,.ptr none,.ptr none])),false⟩),(127,⟨.array 32 4,32,32,(some (.agg (List.replicate 32 (.bool false:V)))),false⟩),(128,⟨.array 32 3,32,256,(some (.agg (List.replicate 32 (.i 0:V)))),false⟩),(130,⟨.struct [(0,127),(32,128)],64,288,(some (.agg (List.replicate 32 (.bool false:V)++List.replicate 32 (.i 0:V)))),false⟩),(137,⟨.ptr 146,1,8,(some (.ptr none)),false⟩),(141,⟨.ptr 299,1,8,(some (.ptr none)),false⟩),(143,⟨.struct [(0,3),(1,3),(2,141),(3,4),(4,4),(5,24),(6,24)],7,48,(some (.agg [.i 0,.i 0,.ptr none,.bool false,.bool false,.int .u64 0,.int .u64 0])),false⟩),(144,⟨.array 2 143,14,96,(some (.agg [.i 0,.i 0,.ptr none,.bool false,.bool false,.int .u64 0,.int .u64 0,.i 0,.i 0,.ptr none,.bool false,.bool false,.int .u64 0,.int .u64 0])),false⟩),(146,⟨.struct [(0,144),(14,4),(15,3),(16,32)],17,136,(some (.agg [.i 0,.i 0,.ptr none,.bool false,.bool false,.int .u64 0,.int .u64 0,.i 0,.i 0,.ptr none,.bool false,.bool false,.int .u64 0,.int .u64 0,.bool false,.i 0,.nils])),false⟩),(157,⟨.struct [(0,3),(1,3),(2,3),(3,25)],4,48,(some (.agg [.i 0,.i 0,.i 0,.nils])),false⟩),(158,⟨.slice 157,1,24,(some (.nils)),false⟩),(160,⟨.struct [(0,24),(1,4),(2,32),(3,158)],4,64,(some (.agg [.int .u64 0,.bool false,.nils,.nils])),false⟩),(165,⟨.slice 252,1,24,(some (.nils)),false⟩),(167,⟨.struct [(0,165),(1,24),(2,127),(34,128),(66,3),(67,3)],68,336,(some (.agg ([.nils,.int .u64 0]++List.replicate 32 (.bool false:V)++List.replicate 34 (.i 0:V)))),false⟩),(182,⟨.ptr 278,1,8,(some (.ptr none)),false⟩),(185,⟨.iface,1,16,(some (.nili)),false⟩),(187,⟨.struct [(0,43),(1,185),(2,182),(3,3),(4,3),(5,3)],6,56,(some (.agg [.ptr none,.nili,.ptr none,.i 0,.i 0,.i 0])),false⟩),(188,⟨.ptr 281,1,8,(some (.ptr none)),false⟩),(191,⟨.ptr 193,1,8,(some (.ptr none)),false⟩),(193,⟨.struct [(0,188),(1,3),(2,182)],3,24,(some (.agg [.ptr none,.i 0,.ptr none])),false⟩),(194,⟨.ptr 284,1,8,(some (.ptr none)),false⟩),(197,⟨.ptr 199,1,8,(some (.ptr none)),false⟩),(199,⟨.struct [(0,194)],1,8,(some (.agg [.ptr none])),false⟩),(203,⟨.struct [(0,3),(1,3)],2,16,(some (.agg [.i 0,.i 0])),false⟩),(205,⟨.map 3 203,1,8,(some (.map none)),false⟩),(206,⟨.array 96 32,96,2304,(some (.agg (List.replicate 96 (.nils:V)))),false⟩),(207,⟨.array 32 32,32,768,(some (.agg (List.replicate 32 (.nils:V)))),false⟩),(209,⟨.struct [(0,205),(1,206),(97,207)],129,3080,(some (.agg ([.map none]++List.replicate 128 (.nils:V)))),false⟩),(215,⟨.ptr 289,1,8,(some (.ptr none)),false⟩),(216,⟨.map 3 24,1,8,(some (.map none)),false⟩),(218,⟨.struct [(0,215),(1,216),(2,24)],3,24,(some (.agg [.ptr none,.map none,.int .u64 0])),false⟩),(219,⟨.slice 308,1,24,(some (.nils)),false⟩),(220,⟨.map 3 3,1,8,(some (.map none)),false⟩),(222,⟨.struct [(0,219),(1,220)],2,32,(some (.agg [.nils,.map none])),false⟩),(233,⟨.slice 346,1,24,(some (.nils)),false⟩),(234,⟨.slice 269,1,24,(some (.nils)),false⟩),(241,⟨.array 2 3,2,16,(some (.agg [.i 0,.i 0])),false⟩),(245,⟨.struct [(0,3),(1,3),(2,3)],3,24,(some (.agg [.i 0,.i 0,.i 0])),false⟩),(249,⟨.struct [(0,3),(1,3),(2,4),(3,4),(4,25),(5,4),(6,24),(7,24)],8,72,(some (.agg [.i 0,.i 0,.bool false,.bool false,.nils,.bool false,.int .u64 0,.int .u64 0])),false⟩),(250,⟨.array 2 249,16,144,(some (.agg [.i 0,.i 0,.bool false,.bool false,.nils,.bool false,.int .u64 0,.int .u64 0,.i 0,.i 0,.bool false,.bool false,.nils,.bool false,.int .u64 0,.int .u64 0])),false⟩),(252,⟨.struct [(0,250),(16,3),(17,4),(18,3),(19,32)],20,192,(some (.agg [.i 0,.i 0,.bool false,.bool false,.nils,.bool false,.int .u64 0,.int .u64 0,.i 0,.i 0,.bool false,.bool false,.nils,.bool false,.int .u64 0,.int .u64 0,.i 0,.bool false,.i 0,.nils])),false⟩),(269,⟨.struct [(0,3),(1,3)],2,16,(some (.agg [.i 0,.i 0])),true⟩),(278,⟨.struct [(0,82),(96,82),(192,4)],193,1544,(some (.agg (List.replicate 192 (.i 0:V)++[.bool false]))),false⟩),(279,⟨.map 3 466,1,8,(some (.map none)),false⟩),(281,⟨.struct [(0,43),(1,3),(2,279)],3,24,(some (.agg [.ptr none,.i 0,.map none])),false⟩),(282,⟨.map 508 515,1,8,(some (.map none)),false⟩),(284,⟨.struct [(0,43),(1,282)],2,16,(some (.agg [.ptr none,.map none])),false⟩),(286,⟨.ptr 338,1,8,(some (.ptr none)),false⟩),(287,⟨.slice 292,1,24,(some (.nils)),false⟩),(289,⟨.struct [(0,286),(1,287),(2,220),(3,24)],4,48,(some (.agg [.ptr none,.nils,.map none,.int .u64 0])),false⟩),(291,⟨.struct [(0,3),(1,24),(2,24)],3,24,(some (.agg [.i 0,.int .u64 0,.int .u64 0])),false⟩),(292,⟨.ptr 295,1,8,(some (.ptr none)),false⟩),(293,⟨.slice 291,1,24,(some (.nils)),false⟩),(295,⟨.struct [(0,24),(1,293)],2,32,(some (.agg [.int .u64 0,.nils])),false⟩),(299,⟨.struct [(0,25),(1,3),(2,3),(3,24),(4,24),(5,4)],6,64,(some (.agg [.nils,.i 0,.i 0,.int .u64 0,.int .u64 0,.bool false])),false⟩),(308,⟨.slice 245,1,24,(some (.nils)),false⟩),(312,⟨.slice 24,1,24,(some (.nils)),false⟩),(318,⟨.struct [(0,3),(1,3)],2,16,(some (.agg [.i 0,.i 0])),false⟩),(338,⟨.struct [(0,293),(1,220),(2,4)],3,40,(some (.agg [.nils,.map none,.bool false])),false⟩),(346,⟨.struct [(0,3),(1,3)],2,16,(some (.agg [.i 0,.i 0])),false⟩),(347,⟨.slice 318,1,24,(some (.nils)),false⟩),(379,⟨.struct [(0,4),(1,4),(2,4),(3,4),(4,4),(5,24),(6,24)],7,24,(some (.agg [.bool false,.bool false,.bool false,.bool false,.bool false,.int .u64 0,.int .u64 0])),false⟩),(385,⟨.int .u64,1,8,(some (.int .u64 0)),false⟩),(387,⟨.int .u32,1,4,(some (.int .u32 0)),false⟩),(391,⟨.array 24 5,24,24,(some (.agg (List.replicate 24 (.int .u8 0:V)))),false⟩),(397,⟨.array 20 24,20,160,(some (.agg (List.replicate 20 (.int .u64 0:V)))),false⟩),(398,⟨.array 65 5,65,65,(some (.agg (List.replicate 65 (.int .u8 0:V)))),false⟩),(401,⟨.array 32 5,32,32,(some (.agg (List.replicate 32 (.int .u8 0:V)))),false⟩),(402,⟨.array 64 5,64,64,(some (.agg (List.replicate 64 (.int .u8 0:V)))),false⟩),(418,⟨.iface,1,16,(some (.nili)),false⟩),(428,⟨.array 2 387,2,8,(some (.agg [.int .u32 0,.int .u32 0])),false⟩),(430,⟨.struct [(0,428),(2,428)],4,16,(some (.agg [.int .u32 0,.int .u32 0,.int .u32 0,.int .u32 0])),false⟩),(431,⟨.slice 436,1,24,(some (.nils)),false⟩),(432,⟨.slice 436,1,24,(some (.nils)),false⟩),(436,⟨.struct [(0,3),(1,3)],2,16,(some (.agg [.i 0,.i 0])),false⟩),(445,⟨.struct [(0,3),(1,3),(2,3)],3,24,(some (.agg [.i 0,.i 0,.i 0])),false⟩),(447,⟨.slice 445,1,24,(some (.nils)),false⟩),(459,⟨.slice 462,1,24,(some (.nils)),false⟩),(462,⟨.struct [(0,3),(1,3)],2,16,(some (.agg [.i 0,.i 0])),false⟩),(466,⟨.struct [(0,3),(1,3),(2,3),(3,24),(4,24)],5,40,(some (.agg [.i 0,.i 0,.i 0,.int .u64 0,.int .u64 0])),false⟩),(472,⟨.array 3 241,6,48,(some (.agg [.i 0,.i 0,.i 0,.i 0,.i 0,.i 0])),false⟩),(497,⟨.slice 501,1,24,(some (.nils)),false⟩),(501,⟨.struct [(0,3),(1,3),(2,3),(3,3)],4,32,(some (.agg [.i 0,.i 0,.i 0,.i 0])),false⟩),(505,⟨.slice 508,1,24,(some (.nils)),false⟩),(508,⟨.struct [(0,3),(1,3)],2,16,(some (.agg [.i 0,.i 0])),true⟩),(515,⟨.struct [(0,3),(1,3),(2,4),(3,24)],4,32,(some (.agg [.i 0,.i 0,.bool false,.int .u64 0])),false⟩),(517,⟨.array 2 241,4,32,(some (.agg [.i 0,.i 0,.i 0,.i 0])),false⟩)],[1,2,3]⟩
def ja6:List V:=[.int .u8 0,.int .u8 1,.int .u8 28,.int .u8 2,.int .u8 29,.int .u8 14,.int .u8 24,.int .u8 3,.int .u8 30,.int .u8 22,.int .u8 20,.int .u8 15,.int .u8 25,.int .u8 17,.int .u8 4,.int .u8 8,.int .u8 31,.int .u8 27,.int .u8 13,.int .u8 23,.int .u8 21,.int .u8 19,.int .u8 16,.int .u8 7,.int .u8 26,.int .u8 12,.int .u8 18,.int .u8 6,.int .u8 11,.int .u8 5,.int .u8 10,.int .u8 9]
def ja5:List V:=[.int .u8 0,.int .u8 1,.int .u8 56,.int .u8 2,.int .u8 57,.int .u8 49,.int .u8 28,.int .u8 3,.int .u8 61,.int .u8 58,.int .u8 42,.int .u8 50,.int .u8 38,.int .u8 29,.int .u8 17,.int .u8 4,.int .u8 62,.int .u8 47,.int .u8 59,.int .u8 36,.int .u8 45,.int .u8 43,.int .u8 51,.int .u8 22,.int .u8 53,.int .u8 39,.int .u8 33,.int .u8 30,.int .u8 24,.int .u8 18,.int .u8 12,.int .u8 5,.int .u8 63,.int .u8 55,.int .u8 48,.int .u8 27,.int .u8 60,.int .u8 41,.int .u8 37,.int .u8 16,.int .u8 46,.int .u8 35,.int .u8 44,.int .u8 21,.int .u8 52,.int .u8 32,.int .u8 23,.int .u8 11,.int .u8 54,.int .u8 26,.int .u8 40,.int .u8 15,.int .u8 34,.int .u8 20,.int .u8 31,.int .u8 10,.int .u8 25,.int .u8 14,.int .u8 19,.int .u8 9,.int .u8 13,.int .u8 8,.int .u8 7,.int .u8 6]
def jax:List V:=[.int .u64 1,.int .u64 10,.int .u64 100,.int .u64 1000,.int .u64 10000,.int .u64 100000,.int .u64 1000000,.int .u64 10000000,.int .u64 100000000,.int .u64 1000000000,.int .u64 10000000000,.int .u64 100000000000,.int .u64 1000000000000,.int .u64 10000000000000,.int .u64 100000000000000,.int .u64 1000000000000000,.int .u64 10000000000000000,.int .u64 100000000000000000,.int .u64 1000000000000000000,.int .u64 10000000000000000000]
end Am.Sigs
