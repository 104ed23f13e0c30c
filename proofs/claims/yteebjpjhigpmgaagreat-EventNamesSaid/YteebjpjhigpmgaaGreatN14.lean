/- Our own library, part 14. -/
import Derived.Test.YteebjpjhigpmgaaGreatN10
import Derived.Test.YteebjpjhigpmgaaGreatN13
set_option maxHeartbeats 8000000
set_option maxRecDepth 800
set_option linter.all false
set_option maxRecDepth 100000
namespace Am.Sigs
open Am Go
abbrev uF {α:Sort _} (f g:α) (_:f=g:=by (repeat (apply funext;intro));conv=>{lhs;cbv}):α:=g
section
variable (S a b c:Nat) (vs:List V) (is:List I) (ps:List AC)
def rV (N:Nat):V × Nat:=match N%33 with
 | 32=>(vs.getD (N/33%a) .nilfn,N/33/a)
 | n=>(([.i 0,.i 1,.bool false,.bool true,.nils,.i 2,.i 3,.ptr none,.i 110,.i 111,.i 64,.i 31,.i 32,.i 113,.i 115,.i 116,.i 4,.i 95,.i 112,.int .u64 1,.i 96,.i 5,.i 8,.i 16,.int .u64 0,.int .u32 0,.int .u8 0,.str [],.i 10,.i 100,.int .u32 1,.i 65536]:List V).getD n .nilfn,N/33)
def rO (l N:Nat):Opd × Nat:=match N%3 with
 | 0=>(.t l,N/3)
 | 1=>(.t (N/3%S),N/3/S)
 | _=>match rV a vs (N/3) with | (x,N)=>(.c x,N)
def r1 (l N:Nat) (k:Opd->I):I × Nat:=match rO S a vs l N with | (x,N)=>(k x,N)
def r2 (l N:Nat) (k:Opd->Opd->I):I × Nat:=match rO S a vs l N with | (x,N)=>match rO S a vs l N with | (y,N)=>(k x y,N)
def rL {β:Type} (r:Nat->β × Nat):Nat->Nat->List β × Nat
 | 0,N=>([],N)
 | n+1,N=>match r N with | (x,N)=>match rL r n N with | (l,N)=>(x::l,N)
def rB (l N:Nat):(Nat × Opd) × Nat:=match rO S a vs l (N/32) with | (x,M)=>((N%32,x),M)
def rI (l N:Nat):I × Nat:=match N%20 with
 | 0=>r1 S a vs l (N/20) .mv
 | 1=>r1 S a vs l (N/20/1024) (.faddr (N/20%1024))
 | 2=>r1 S a vs l (N/20) .load1
 | 3=>r1 S a vs l (N/20) .nilck
 | 4=>r1 S a vs l (N/20/16) fun x=>.extract x (N/20%16)
 | 5=>r2 S a vs l (N/20/1024) (.store (N/20%1024))
 | 6=>r2 S a vs l (N/20/32) (.bin (([.add,.sub,.mul,.quo,.rem,.and,.or,.xor,.shl,.shr,.andNot,.eql,.neq,.lss,.leq,.gtr,.geq]:List BinOp).getD (N/20%32) .add))
 | 7=>match rO S a vs l (N/20) with | (x,N)=>r2 S a vs l N (.pick x)
 | 8=>match rL (rO S a vs l) (N/20/1024%16) (N/20/1024/16) with | (x,M)=>(.call (N/20%1024) x,M)
 | 9=>r2 S a vs l (N/20/1024/1024) (.ixaA (N/20%1024) (N/20/1024%1024))
 | 10=>r2 S a vs l (N/20/1024) (.ixaS (N/20%1024))
 | 11=>r1 S a vs l (N/20/1024) (.loadN (N/20%1024))
 | 12=>r1 S a vs l (N/20) .lenL
 | 13=>r1 S a vs l (N/20/4) (.un (([.not,.neg,.xor]:List UnOp).getD (N/20%4) .not))
 | 14=>r2 S a vs l (N/20/1024/1024) (.append (N/20%1024) (N/20/1024%1024))
 | 15=>r1 S a vs l (N/20/32) (.box (N/20%32))
 | 16=>match rL (rV a vs) (N/20/32%32) (N/20/32/32) with | (x,M)=>(.alloc (N/20%32) x,M)
 | 17=>match rL (rV a vs) (N/20/32/32%64) (N/20/32/32/64) with | (x,M)=>match rL (rB S a vs l) (M%32) (M/32) with | (y,M)=>(.bslice (N/20%32) (N/20/32%32) x y,M)
 | _=>(is.getD (N/20%b) .fail,N/20/b)
def r3 (g:Option (Nat × Bool)) (h N:Nat):Option (Nat × Bool) × Nat:=match h with
 | 0=>(none,N)
 | 1=>(g,N)
 | _=>(some (N%S,Nat.beq (N/S%2) 1),N/S/2)
def rC (g:Option (Nat × Bool)) (l N:Nat):(Nat × I × Option (Nat × Bool)) × Nat:=match rI S a b vs is l (N/S) with | (i,M)=>match r3 S g (M%3) (M/3) with | (g,M)=>((N%S,i,g),M)
def rP (j h N:Nat):Nat × Nat:=match h%2 with | 0=>(j,N) | _=>(N%1024,N/1024)
def rQ (l h N:Nat):Option Nat × Nat:=match h with | 0=>(some (l+1),N) | 1=>(some (N%S),N/S) | _=>(none,N)
def r4 (q:Option (Nat × Bool)) (l h N:Nat):Option Nat × List (Nat × I × Option (Nat × Bool)) × Nat:=match h with
 | 0=>(none,[],N)
 | _=>match rL (rC S a b vs is q l) (N/8%32) (N/8/32) with | (c,M)=>(match N%8 with | 0=>none | a+1=>some a,c,M)
def rM (j l h N:Nat) (q:Option (Nat × Bool)):(Ins × Nat) × Nat:=match rP j h N with
 | (j,N)=>match rQ S l (h/2%3) N with
 | (d,N)=>match r3 S q (h/6%3) N with
 | (g,N)=>match r4 S a b vs is (g.or q) l (h/18) N with
 | (x,y,N)=>match rI S a b vs is l N with | (i,N)=>((⟨j,d,i,g,x,y⟩,d.getD l),N)
def sJ (r:Nat->Nat->Option (Nat × Bool)->Nat->(List Ins × Nat) × Nat) (j l:Nat) (q:Option (Nat × Bool)) (N:Nat):(List Ins × Nat) × Nat:=match rM S a b vs is j l (N%36) (N/36) q with
 | ((x,l),N)=>match r (x.ix+1) l (x.guard.or q) N with | ((r,l),N)=>((x::r,l),N)
def rJ:Nat->Nat->Nat->Option (Nat × Bool)->Nat->(List Ins × Nat) × Nat
 | 0,_,l,_,N=>(([],l),N)
 | n+1,j,l,q,N=>sJ S a b vs is (rJ n) j l q N
def sD (r:Nat->Nat->List Nat × Nat) (p N:Nat):List Nat × Nat:=match N%2 with
 | 0=>match r (p+N/2%8) (N/2/8) with | (r,M)=>((p+N/2%8)::r,M)
 | _=>match r (p+N/2%S) (N/2/S) with | (r,M)=>((p+N/2%S)::r,M)
def rD:Nat->Nat->Nat->List Nat × Nat
 | 0,_,N=>([],N)
 | n+1,p,N=>sD S (rD n) p N
def rK (p:List Nat) (N:Nat):List Nat × Nat:=match N%4 with
 | 0=>(p,N/4)
 | 1=>rD S (N/4%64) 0 (N/4/64)
 | 2=>rL (fun N=>(N%S,N/S)) (N/4%64) (N/4/64)
 | _=>(p++[N/4%S],N/4/S)
def sA (r:Nat->List Nat->Nat->AC × Nat × List Nat × Nat) (N:Nat) (p:List Nat) (l:Nat):AC × Nat × List Nat × Nat:=match N%12 with
 | 0=>match r (N/12) p l with | (x,N,p,l)=>match r N p l with | (y,N,p,l)=>(.seq x y,N,p,l)
 | 1=>match rJ S a b vs is (N/12%128) 0 l none (N/12/128) with | ((q,l),N)=>match rK S p N with | (p,N)=>(.region 0 q p,N,p,l)
 | 2=>match rJ S a b vs is (N/12/8%128) 0 l none (N/12/8/128) with | ((q,l),M)=>match rK S p M with | (p,M)=>(.region (N/12%8) q p,M,p,l)
 | 3=>match rO S a vs l (N/12) with | (x,N)=>match r N p l with | (y,N,p,l)=>match r N p l with | (z,N,p,l)=>(.cond x y z,N,p,l)
 | 4=>match r (N/12/128) p l with | (x,M,p,l)=>(.block (N/12%128) x,M,p,l)
 | 5=>match rK S p (N/12) with | (k,N)=>match r N k l with | (x,N,q,l)=>(.loop k x,N,q,l)
 | 6=>(.skip,N/12,p,l)
 | 7=>(.ret,N/12,p,l)
 | 8=>(.exit (N/12%128),N/12/128,p,l)
 | 9=>match rO S a vs l (N/12) with | (x,N)=>match rK S [] N with | (y,N)=>match rK S p N with | (k,N)=>match r N k l with | (z,N,p,l)=>match r N p l with | (w,N,p,l)=>(.rangeFunc x y k z w,N,p,l)
 | 10=>match r (N/12) p l with | (x,N,p,l)=>(.scope x,N,p,l)
 | _=>(ps.getD (N/12%c) .skip,N/12/c,p,l)
def rA:Nat->Nat->List Nat->Nat->AC × Nat × List Nat × Nat
 | 0,N,p,l=>(.skip,N,p,l)
 | f+1,N,p,l=>sA S a b c vs is ps (rA f) N p l
end
def jA (S N a b c:Nat) (vs:List V) (is:List I) (ps:List AC):AC:=(rA S a b c vs is ps 40 N [] 0).1
abbrev yA (S N:Nat)  {g:AC} (_:(jA S N 0 0 0 [] [] [])=g:=by (repeat (apply funext;intro));conv=>{lhs;cbv}):AC:=g 
abbrev yB (S N:Nat) (a:AC) {g:AC->AC} (_:(fun a=>jA S N 0 0 1 [] [] [a])=g:=by (repeat (apply funext;intro));conv=>{lhs;cbv}):AC:=g a
abbrev yC (S N:Nat) (a b:AC) {g:AC->AC->AC} (_:(fun a b=>jA S N 0 0 2 [] [] [a,b])=g:=by (repeat (apply funext;intro));conv=>{lhs;cbv}):AC:=g a b
abbrev yD (S N:Nat) (a b c:AC) {g:AC->AC->AC->AC} (_:(fun a b c=>jA S N 0 0 3 [] [] [a,b,c])=g:=by (repeat (apply funext;intro));conv=>{lhs;cbv}):AC:=g a b c
abbrev yE (S N:Nat) (a:I) {g:I->AC} (_:(fun a=>jA S N 0 1 0 [] [a] [])=g:=by (repeat (apply funext;intro));conv=>{lhs;cbv}):AC:=g a
abbrev yF (S N:Nat) (a:I)(b:AC) {g:I->AC->AC} (_:(fun a b=>jA S N 0 1 1 [] [a] [b])=g:=by (repeat (apply funext;intro));conv=>{lhs;cbv}):AC:=g a b
abbrev yG (S N:Nat) (a:V) {g:V->AC} (_:(fun a=>jA S N 1 0 0 [a] [] [])=g:=by (repeat (apply funext;intro));conv=>{lhs;cbv}):AC:=g a
abbrev yH (S N:Nat) (a:V)(b:AC) {g:V->AC->AC} (_:(fun a b=>jA S N 1 0 1 [a] [] [b])=g:=by (repeat (apply funext;intro));conv=>{lhs;cbv}):AC:=g a b
abbrev yI (S N:Nat) (a:V)(b:I) {g:V->I->AC} (_:(fun a b=>jA S N 1 1 0 [a] [b] [])=g:=by (repeat (apply funext;intro));conv=>{lhs;cbv}):AC:=g a b
abbrev yJ (S N:Nat) (a:V)(b:I)(c:AC) {g:V->I->AC->AC} (_:(fun a b c=>jA S N 1 1 1 [a] [b] [c])=g:=by (repeat (apply funext;intro));conv=>{lhs;cbv}):AC:=g a b c
abbrev yK (S N:Nat) (a b:V) {g:V->V->AC} (_:(fun a b=>jA S N 2 0 0 [a,b] [] [])=g:=by (repeat (apply funext;intro));conv=>{lhs;cbv}):AC:=g a b
abbrev yL (S N:Nat) (a b:V)(c:AC) {g:V->V->AC->AC} (_:(fun a b c=>jA S N 2 0 1 [a,b] [] [c])=g:=by (repeat (apply funext;intro));conv=>{lhs;cbv}):AC:=g a b c
abbrev yM (S N:Nat) (a b:I) {g:I->I->AC} (_:(fun a b=>jA S N 0 2 0 [] [a,b] [])=g:=by (repeat (apply funext;intro));conv=>{lhs;cbv}):AC:=g a b
abbrev yN (S N:Nat) (a:I)(b c:AC) {g:I->AC->AC->AC} (_:(fun a b c=>jA S N 0 1 2 [] [a] [b,c])=g:=by (repeat (apply funext;intro));conv=>{lhs;cbv}):AC:=g a b c
def c3_0 :=yM 343 0x45520626ee308c23a958928b6214073d601c14fa33f4bbe86c6430577ebe60811e30aa5c78c8303cde927392911623cbf2c8168c14f0a00fbc2119a64f555b4c06f33af28488313a5c710f40fd9cbbdfd401f64342036a9db5acc026ff4c972a2e9ad776aff61faf34f82f5f67efc7b3fe4675b3072c13a75c0eae467397d64e8372977bae6dd9772d627046a3e0769cae84f2fe089bcdb82cb939cdca3023bb987821116f1f85044eefc276e924a1bb2d7636f22c6ee17eb37f3fe3b67176a530ecc38cdd66a743e7e5089399d2246954543bce79dbd232c90d3e5ae8a29b4f307b952166afc3407ad82f753e94723a87130906059d2b9a563c191b76348ba52a0b7aa8085f725774f924cac95d9afdd8d02ac (.build [.i 0,.i 0,.i 0,.i 0] []) (.eq .ptr false (.t 320) (.c (.ptr none)))
def c3_4 :=(uF (fun a b c d e=>jA 254 0xa27a7311a1278fd68eb35ce1948e80c3df7cfa13c09068bb06beb277489431160d079cc44b54f08560b8d5dd9ced6029594c374b5b415e47b665d9c06ff4b3b12cc743d20520d429b3d6b9a99e3cbc9aefe7684024e9256cb427c2be8e075d07aa83ab0e99d4d5def88737c3d0c1b4d8da1594d5add188c091242f992d1863a5975c3520f1987c 3 1 1 [a,b,c] [d] [e]) _) (.nili) .nili (.map none) (.mkIface 23 (.t 231)) c3_0
def c3_5 :=yF 223 0x5245caa5a0fd2ea726ff78ceca16fc7b61026d9c056c744a884ed90548c (.mkIface 23 (.t 218)) c3_4
def c3_6 :=(uF (fun a b c d=>jA 217 0x159ffa509842157227dffc3f4f1e79706b9961cc2830e4650771d0ef61b893350e5dbd14fe0a3fb542250a021b461299fa4780b5aace94bf68dd0d54c27eed3682dc9e2b5d3a20c05d39570de86c6c550d7ecac4183a39a04d42f0219d9104b02767be89ef41f4019c4a9ee78867c63335b99e135851cde81da01aa40eae4dae8ff8f2afd96aacd4f5f1f6847b37f8589e99aec8a318727b6cba7d0c53b5e5b049e28cbc 3 0 1 [a,b,c] [] [d]) _) (.i 182) (.i 9) (.i 180) c3_5
def c3_10 :=(uF (fun a b c d e f g=>jA 167 0x84eace29528cb37b1d4c3b18acb40eb141cbe9b6295d2d37fba8d7b9ca4f557eabbe4a19770e5e0c4d9a2ec561d4df11e73ebcd9aad47bd79edb4a0893e0b6a504e9fd87f64e352214f8ad13f1e2741c600adc41e5925c6167d82a11b216bcfac5c036bb22e7056784f8639a5c610770a3db3ca995f2e19e89fd343e810ec2910fb32404e80b802e4f8931b48c 3 3 1 [a,b,c] [d,e,f] [g]) _) (.i 7) (.i 9) (.int .u64 5) (.build [.i 0,.i 0,.i 0,.i 0] [(0,1,(.c (.i 1))),(2,1,(.c (.i 34)))]) (.build [.i 0,.i 0,.i 0,.i 0] [(0,1,(.c (.i 1))),(2,1,(.c (.i 4)))]) (.build [.i 0,.i 0,.i 0,.i 0] [(0,1,(.c (.i 3)))]) c3_6
def c3_12 :=(uF (fun a b c d=>jA 136 0x256f5b091bcc99fa4919266a8a4fcacbd0fd96bedeb6090e46b57db4444ee70f0807ba0f54f0b4987c15e00328a03d30f306d99b1bc 2 1 1 [a,b] [c] [d]) _) (.i 7) (.int .u64 5) (.build [.i 0,.i 0,.i 0,.i 0] [(0,1,(.c (.i 3))),(2,1,(.c (.i 16)))]) c3_10
def c3_13 :=yB 121 0x2f1ea1d29bf8c84d6674a37a3dc070d333aaa0f3b57edb7bcf09bda381a92d188e662dc6b6e0e4302964b0df56bffe68b4c27f2aa3f5660e4ace91b1e6965533ab42184a84efa4550f97cc2d25d7d63786d29fcf245f957bb386cd36370e46aaa232c c3_12
def c3_17 :=yF 88 0x329a7080b77cefaeb1f4d67d58c1a5ffb724f13834d40f5b1f5081ddf159d8da7083a345b99da68543b1e43c40d46a3e30fb1f78c4ad3d4b4a0f3c37cc7f8a8f8d97776063deb743f77a7e14fd76c325f75b41bb0141a0be34b72f524ce25cf35f22cfc02e45bf261517ba5ef3bd1bc (.build [.i 0,.i 0,.i 0,.i 0] [(0,1,(.c (.i 2))),(1,1,(.c (.i 2))),(2,1,(.c (.i 16)))]) c3_13
def c3_20 :=(uF (fun a b c d e f g=>jA 58 0x408cfb6981b7a96002fea099852f85208ec10b9cac8a89e58f282000b17ecc766dd2f826a3990963cd39a720445564f1fbd63e2593f57f64170be7ebf43be832d13f396da442f1dd742f9145d95c8adefca8162465cb456906bb28692fd6a198a2a1712dc0e407f24ff1409c6b797fd3514d12e2c24de86247d115d4b04336c 3 3 1 [a,b,c] [d,e,f] [g]) _) (.i 6) (.i 9) (.i 181) (.eq .ptr false (.t 32) (.c (.ptr none))) (.build [.i 0,.i 0,.i 0,.i 0] [(0,1,(.c (.i 3)))]) (.build [.i 0,.i 0,.i 0,.i 0] [(0,1,(.c (.i 3))),(3,1,(.c (.i 99)))]) c3_17
def c3:AFn:=⟨0,343,[.tmp 0],yB 2 115829674140 c3_20⟩
def c4_2 :=(uF (fun a b c d=>jA 28 0x33aa3f6be632c6c009c1ce3c7f2ded6ba3b6c4dc3a787f289e9b9d44a22a483a1546527b6c38c41affaec669de6160cf9ef1ba06cc1aeca000b52d3bd6cfb21888acbe0e143d23e04d44eb13fa1d054f59debf171bc 0 4 0 [] [a,b,c,d] []) _) (.build [.i 0,.i 0,.i 0,.int .u64 0,.nils] [(0,1,(.c (.i 2))),(2,1,(.c (.i 4)))]) (.build ([.ptr none]++List.replicate 97 (.i 0:V)) [(0,1,(.t 10)),(1,1,(.c (.i 96)))]) (.box 98 (.t 11)) (.mkIface 23 (.t 18))
def c4:AFn:=⟨0,28,[.tmp 0,.tmp 1],yB 7 0x3b51d322b3cc4821b926ed073112c c4_2⟩
def c5_4 :=(uF (fun a b c=>jA 40 0x30d0afc964df56296fc595de16d99e634f72c5d17e2c4923983fda3c638ac9389d3dbb50eebfebda2c9b77988149d983cabcef8958d047e7e1b6d889e826bc9275733dede4e4ae0a0ecbdf204223c05a90a5b1eb046ebb99386421bd93fbfaeff97cae09763b7b1b5b9fb520323d30a3b98e9b21ac93da3b55cce0ad69b7da003765edc4c49cee04a76905fe312c 2 1 0 [a,b] [c] []) _) (.i 999) (.i 180) (.mput (.leaf (.int .i64)) (.t 31) (.t 32) (.t 33))
def c5:AFn:=⟨3,40,[.tmp 6],(c5_4)⟩
def c6_4 :=yA 57 0xd8e49254e121452aeb1c1ef8c79b9291661ccaeba9e7ef227b3d5d47a8b394bfdb597344ce1ecd29ae8e2e07bde2fddd0fd38063539354739df9ee6083d383bb1dd9cc73adf975ad2231fbabfd348586e8dc0016c4b1cbcf606e3d2add5406b77212e366cd39bb5fed45f89ebbad4772df37befd0
def c6_5 :=yB 30 0x2928f3f6b9bcc5b2b6089e59813cfbaf5ae2432e1c05a493bcd85051537553418d1797d838c391bde3fb262961d57d9f0a45f748b7aa193756860e64e499ea3dee51cbf29882e56ea3e571dee616279075de1c4351c c6_4
def c6:AFn:=⟨4,57,[.tmp 8],yB 9 0x1ea6b1cf4c12109c c6_5⟩
def c7_0 :=yA 17 0xbaf427184b8fc522a6b9e32e2f7bb799cc5daacf452cca59a3326a69199bab11db93fc
def c7:AFn:=⟨2,17,[.tmp 4],yB 8 0xa45c4dc18cc1ea998cbd4c0a282c928b3e25932d109c c7_0⟩
def c8_0 :=yA 14 0x1f90cfcfb58567cc05c4481584da7fccf477d7bfe07062c4ed61c3e146909536c
def c8:AFn:=⟨1,14,[.tmp 2],yB 6 0x3a7f1b01092b5cd6fed2a727337888e029f9dd09c c8_0⟩
def c9_5 :=(uF (fun a b c=>jA 72 0x6a43dc928c46f9102b84043248b98e6575d26a17cc80bcdf138e870dd032a456acce04de5df61b55866123b687791cecc516774d698c1b335617ab76486c585e5c08c35381ab4ac572eff0e5f15a118c9fe34c4a012697a993ba08a3069490eb0aabc1010f7dac687771608533493b85f5364ee6741044a1209d704cb22acaf58a626b0681d7fb922bf287492a9cfda12561e0 0 3 0 [] [a,b,c] []) _) (.lookup (.leaf (.int .i64)) (.agg [.i 0,.i 0,.i 0,.i 0]) false (.t 61) (.t 62)) (.field 3 none (.t 63)) (.maxI [(.c (.i 0)),(.t 67)])
def c9_8 :=(uF (fun a b c=>jA 101 0xa7491379ae1624364fe0ea4d7e622674134b04e7372b04d498aaa127b2cfe5b91f16fc240824eeb786b509c0fcf604b7474333fba2e9d095720a9c60474ccfedc0eb17ab613724c8ddc7b54683523ac08733f9554f46a5c63c21120fdf0c89d9e1fae3faaaf4286054187627670b784419e6abaee488478cc168c7b70c26b0d23123f9130f6d4d0 0 2 1 [] [a,b] [c]) _) (.lookup (.leaf (.int .i64)) (.agg [.i 0,.i 0,.i 0,.i 0]) false (.t 94) (.t 95)) (.field 3 none (.t 96)) c9_5
def c9_9 :=(uF (fun a b c=>jA 36 0x523655501551238b3bcf7e94d478ebf8937b73606c2aff686468bb1f3e90a9fee64c192252d0218d2c8c5e5bbd8808048ce7d077885e708659a0a66c788700dd724638ca8154d0 0 2 1 [] [a,b] [c]) _) (.lookup (.leaf (.int .i64)) (.agg [.i 0,.i 0,.i 0,.i 0]) false (.t 26) (.t 28)) (.field 3 none (.t 29)) c9_8
def c9:AFn:=⟨3,101,[],yB 15 0x35a692ea99a61ec69f346a8da20cb2909c c9_9⟩
def c10_5 :=yE 59 0x2ca3b63bc54595f933be2918d1ec65db37d4ad8434729124f411a8d7baec915e2b5b7d2d26ba9c217725cc2352fa4871d1034f782dd61b23aa9143bc8c0952ed41e0f02501218a844fb77aa5ce1bd6a9d00e7d7ad2ffb0d0e14d2231b6d57061d8d02d5bb84605328347a96ab58838f9d05c520768b1f456b26badd66bca3c722d7f03b18e33098481f002c5623d8cf07dce10 (.lookup (.leaf (.int .i64)) (.agg [.i 0,.i 0,.i 0,.i 0]) false (.t 27) (.t 28))
def c10_7 :=yB 22 0x5f7b9f01f4255355e173b1ecd54adaffda0015a0ca65f31ceadc8a69e98ba64728f264db40ba9469a38a8b8101040501550c8e17a3f42d911f9abbb7545ce10 c10_5
def c10:AFn:=⟨2,59,[.tmp 4,.tmp 5,.tmp 6],yB 7 0x1c2e6244b8d68d5a0c11bc c10_7⟩
def c11_3 :=yA 63 0x6e08216de3ff93cad38ef3b6d8a5ca430f406c944884997e509cd1b8f024e8268138247429734fd084146f95fa1e2ac06ff0c75b9324da6da4e02ac525e99f3e9324c93aade8e80526570bb43d1b77e64d888a696bb9984e156179735873714ebcf95f809f048b383938c02738d9f49b9726d13180ad0
def c11_6 :=yH 37 0x77508fecdb06024774e8056c5fda3ce659eb7711b650de81481561c483b27a1eef2e8b5db911f2f25381dbb33766492c2d9d44c9abe307bbe53e1291652d45303c20845c58931fd8b10e55ab0fbe45ce8c92ac4d1f683ff4301bc9e2d80d509b1e9ce96879ab8c7780a9fbdc771ba4193110ff7d2ee551c (.i 6) c11_3
def c11:AFn:=⟨2,63,[.tmp 4],yB 5 4789558483587228 c11_6⟩
def c12_1 :=yA 20 0x31a41a84c6b8e372131b49990ab720b41323dcac1f7f42919bcba889ab42cb18f9d9c6a5f42dbc622cbfe621784c9ea6c360f08907a08573fd1497d1951c
def c12:AFn:=⟨2,20,[.tmp 4],yB 5 4789558483587228 c12_1⟩
def c14_0 :=yI 21 0x22860a0d8062f934b28b8a94914a436083e82041db06d803e4af59fecf017f74b5 (.int .u64 18446744073709551615) (.minI [(.t 11),(.t 16)])
def c14:AFn:=⟨2,21,[],yB 7 0x35fbc08a7c1362add35d911bc c14_0⟩
def c15_3 :=yG 43 0x147ee7c369fc404c533527d3bb16a75d537a4e26a7b806e88739c33796dcdc98d5c5fb62ec9cb146c3748197a6d3d78b77b543b81343465f27aba000d78de0a3916536a1cceb29bb25630e34375b81752b877929b84bb1bec3f5b218de2f29230bf7c790689ba22d6911a213c8dc1fbfbb5eb34d6985e95da55db2523311a151c (.i 15)
def c15:AFn:=⟨4,43,[.tmp 8],yB 9 0x1ea6b1cf4c12109c c15_3⟩
def c16_3 :=yA 31 0x1987d905503378481e91cae80750642f3bfdff2eea18ba38e2ac9ee6284c6948d5c984512243e5c65ccbf8d7d6cef87b3ccbbbd2f78f0eb26b5126dcc6011bc
def c16_4 :=yF 46 0xb96a91157b36435c5dbcd8503b6691ba88694a787ce697be948cc9a31d7f39be58ccb53431af8d40e4c6744c8e5e6627bbc0bffc6f5865e39f9531cd4e5c981503496509b444a0e5ad7e8dfbe7d3477b2cd7cd736f341eade7a5d51c (.mput (.leaf (.int .i64)) (.t 36) (.t 37) (.t 38)) c16_3
def c16:AFn:=⟨3,46,[.tmp 6],yB 7 0x17d6b927192d09c c16_4⟩
def c17_0 :=yA 10 0x602b2923aeb0445d5eba19b43ab2ff8a0c1f727e7ce0b5f3d32f566a8f34e10
def c17:AFn:=⟨1,10,[.tmp 2],yB 3 532183339164 c17_0⟩
def c18_3 :=yA 26 0x4b12c4bb517caaf365a3928ef4b8ed12cbceebb677b282acab37c60543204daba413f1a383abaaed052dec4495100f0e9566977bd44745f7852d0437a75bfed3286442403ed3dc9c0e46bf82c4e83e32a55aa4e3a8f06df567e9c0476a240cb09949f6b97151b9fe250
def c18:AFn:=⟨2,26,[.tmp 4],yB 5 4789558881718428 c18_3⟩
def c19_4 :=yM 39 0x12f61f7f9750b7b29a8e733ae2e7bb2a8f8ba40b223c7266525dd18ad24c302d6ba2b47104e51b9388c06af8fde724ebc05937dab9d26171cd7d5eb54cf778be2b002799e0702e07c922ff17b5ff31a0ecd8e2011b2aee58c7bc097c3de0d1505672509a165e591d93105fce9a33b5250bd3fc (.lookup (.leaf (.int .i64)) (.agg [.i 0,.i 0,.i 0,.i 0]) false (.t 27) (.t 28)) (.invoke [(23,225),(60,30)] (.t 35) [(.t 36)])
def c19:AFn:=⟨2,39,[.tmp 4],yB 10 0x1f596b0bb219894b4decc83079239ab630daf56da109c c19_4⟩
def c20_1 :=yA 17 0x2f13e370d2955e286eb10555d9a39aded6a7e8afb2fae28279776f56bef7d81df07957304f0dc361f1e38156e6910
def c20:AFn:=⟨2,17,[.tmp 4],yB 5 4789558483587228 c20_1⟩
def c21_3 :=(uF (fun a b c d=>jA 32 0xb4352197277e6d3785afd0895d04e9b398cd298933da12dc1814d7fd362d79c9378defd95795c83746fd2ed77eee1074380a3021376cd50d7efcc9f6b04e9aa2f3520f04dd918d589856c0262dcdd9b8c9a9fcdf4ae770e6d86c3c5e910 0 4 0 [] [a,b,c,d] []) _) (.eq .ptr false (.t 10) (.c (.ptr none))) (.eq .iface false (.t 13) (.c (.nili))) .mkMap (.build [.ptr none,.nili,.map none,.ptr none,.ptr none,.ptr none] [(0,1,(.t 24)),(1,1,(.t 25)),(2,1,(.t 26)),(3,1,(.t 27)),(4,1,(.t 28)),(5,1,(.t 29))])
def c21:AFn:=⟨3,32,[.tmp 6,.tmp 7],yB 8 0x1da1d5b882a3489512c c21_3⟩
def c22_0 :=yG 85 0xb590c8182ca7dad4f9f62acb40415a4ff3bdab0c29111d4d13e42479e1ef604f0abb896a44e81ccbc7052a4330b6f937acf17eacff6d11e7c6a7605e8cb604bb630f4448a96ffeb3f8e604d1d00a83d149def321b4e90aec1cb4ec5995f45e3a72b0d0033fe2c2f9d1c1c2cd99b9ea21ed517643b8daccb2887638dc20ad38c95c (.i 67)
def c22_5 :=(uF (fun a b c d e=>jA 41 0x334a9f62f8bc1ec9ef312170c94cccd7b8f1193082652975171d31f1e29c6ce8b585b0a322c29289e222fbd461ef850b9386aba7fb204199f36a54016020486b6424238065e4a0f2580ad78f261886fb24e9629172f1c9006a423dad898053af6e50b84fa4f37ae5ee17419427b95a9e0adf5f70b84e0e5b7eebb0ad16d400d627871464114edec36a44ea755d16e87f5ff6ae2c0e211cf37336c 1 3 1 [a] [b,c,d] [e]) _) (.int .u64 9) (.eq .ptr false (.t 16) (.c (.ptr none))) (.build [.i 0,.i 0,.i 0,.i 0] [(0,1,(.c (.i 1))),(2,1,(.c (.i 2))),(3,1,(.c (.i 1)))]) (.build [.i 0,.i 0] [(1,1,(.c (.i 6)))]) c22_0
def c22:AFn:=⟨0,85,[.tmp 0],yB 2 115829674140 c22_5⟩
def c23_0 :=yA 13 0x198e4551ae261bca0ba1a9e542a517a973fc
def c23:AFn:=⟨2,13,[.tmp 4],yB 7 0xc0b0b6a88d9633f6354e8ff36b95e23f660e0cc909c c23_0⟩
def c24_0 :=yA 9 0x1aebe21b02d67f65ca2f40fc0046000837a150de283e1100f98334e10
def c24:AFn:=⟨1,9,[.tmp 2],yB 3 533019414684 c24_0⟩
def c25_3 :=yA 31 0x9827ac174b5bc1ea2da21bfa13649a117da35a72df4d2df9e794e4699c9a5acbb95d20a3988d65087883aeafbb8206b474fdc1df6c45a21407fd9c8937bcf12cfe9c47fb04b4a87959d188c008b42c9cc9201f5d28160d3b1a945779cbd4e5ceed095d578d902aeb9e0d17c5243c0371881d913606759aaa65aea96b1ae010709c
def c25:AFn:=⟨1,31,[.tmp 2],yB 3 532661096604 c25_3⟩
def c26_0 :=yE 5 0x3b77274a7a440d8d8590d33e91c1bd60109c (.build [.ptr none,.ptr none] [(0,1,(.t 1)),(1,1,(.t 2))])
def c26:AFn:=⟨0,5,[.tmp 0],(c26_0)⟩
def c27_7 :=yA 98 0x3b83f97dfa9cabc7c886bfa7079929b6b5cf37f72abb0fdd9a6b41703b79b11789dbcd51d8e99c51e226f73e824a6e6fd4dc458d311ca5a40ebcef6b36c9cd7d16d78d09aabc5d1ff94a5f6d6ca71b61ac7ab63216d2a734be3af4aa7a5e3fe06f880840b9c640560baf16920e8382eb505b480027e32de84f9d904055e3803b2f03a2c7a00422ce98f07b5f9cdc312c
def c27_9 :=yB 125 0x11c81f0efc808f52aabb936a9df16e45b522a75d7aacf067d27ff3b6038d033d93eab531d130e455d6f8cb125e9decbce83598d350f459bc798cef6e83df100aeec831d00bf5da24c06550004e2bdf69d51d9cbbd9af6f5b8ffd2ed4ccdfcc52b9c22e915557086bc909b39d93ca9630748486417c1f0903967f1cf91f11fc6f2a351f47f8b12ce2ef9eb0a9fde28fe7d1b52012f4e10 c27_7
def c27_13 :=(uF (fun a b c=>jA 205 0xa8f2e41c6c8c4748bed8743c939de440eb51955794c2f8cd3329eeb05f07c88f7a352b5a6c993f6bae404537735410f00a1ff32782283825b9339a82c1467d05b76fe5954ef06bb892128980d54037f6f1f141491c3d4792c6cd90c 0 3 0 [] [a,b,c] []) _) (.ofBytes (.t 190)) (.ofBytes (.t 192)) (.eq .bool false (.t 196) (.t 197))
def c27_20 :=yA 274 0x200f04d6d482ffbe06da9ee742584253bb72de8f0d0dd9ff31746d2155e8ca0a71329635c263da04998b401b9c4dc190b8919475013534f71d35c012ea7d0a21685530729fd287fab0ed807cfd73f6520f217ef312c
def c27_21 :=yA 238 0x117719dc315c103a7f90902c6be37e7836977a59c76c0cbe3833b01ffc74ffbf79a5cf07af21d8d0cd903c37aa2f9446377d86e3c79f7145605c91549e14147078d78ca0bb7d92923a9f2103c3828a00aafe37ebfc17b4d6add2fbe0cbc148e259d699ce2f466639da66c61a2fcac6975c
def c27_24 :=yA 162 0x3831a7105cedd63e598b88295254ceb885e270497bcfb514c046602b5c6d818293223b5edd8fb8eab54f1db9d40eb80fb4f66a0c141d29f9c65fe319ae5231d016b8281e3dafd2a05dea5115ac1ec1a3fa95945d4e879306a398f284bcc1756c6c4b5b6d7e961e9df45e604e7e14dd80f10cc4bd5e68dce4a5e82497ec
def c27_25 :=(uF (fun a b c d e f=>jA 256 0x9a0bb155456d350fdf92d53468a087fa4b7136e21f52a30058b9a9bbed48616bb47f2759ba3902bdf6584ba3d964175c67593786acaeb2e4cc51865b5bfe1ee8022a5767dee276e7046570bc4d04405077871347b93605a780889c473ae3c51e75e1108c74dd8d8437d5b9bb746bb130d3a5feb517167a4eedf9decc095aa6db243d10ccd33088bdebb407d6f44257cf0d36e2c3c70a26034d0de3f0a582e5a790053c512c 2 0 4 [a,b] [] [c,d,e,f]) _) (.i 6) (.i 7) c27_24 c27_13 c27_21 c27_20
def c27_29 :=(uF (fun a b c=>jA 289 0xe8f0e7751a420638d5e41c85bf6f9eb841c6cae46484d31801b74de496c8032d0b2a4983d2f2ad17c1895b4e3611a7bc53e3b9539ed8f412b318b9b953883ac5f5a96d2b4eb2e0d61b52b44b5e261c2592e84353b12a2aaf56a9d31e73a2285d660f5274d151d513846a93a6103880c771a8361d52bf9148ea4130e51d90c203170a46c9e239faa384aa8f796cf83a4bc1f29775334aeeea0a88e37052f825654e36dd9faf5758f63d25f35985fb41a82512dc 1 0 2 [a] [] [b,c]) _) (.int .u8 1) c27_9 c27_25
def c27:AFn:=⟨2,289,[.tmp 4],yB 5 0x5bbfb6ebb2a21cd12c c27_29⟩
def c28_0 :=yM 12 0x28acf3629c132e18fa91427e983a6c4f35b1616f5ac (.eq .ptr false (.t 3) (.c (.ptr none))) (.eq .ptr false (.t 9) (.c (.ptr none)))
def c28:AFn:=⟨1,12,[.tmp 2],yB 3 532422217884 c28_0⟩
def c29_2 :=yK 58 0x2d1c1485df28ce45a0b8dbf1519c7c655b746cc70831cf79c6c5d4860dc7276f9c5e0e1d51fa7cc0c36aa786c541b37a1639d01cc4a1afb9f64564cbba9e83489b075fd44cfab68ad39d971b821ad568fc501cca26984eb68e0c0bbeff3f19c2ee046d208eae90da0a3009be8cb53f9e91311c754156998d7bd59c3b12c (.i 54) (.i 6)
def c29_4 :=yB 72 0x2c3b83afe737b2d92e4bb8797ed859fdd68baea4f389a0bdcb01c77bdd05a316efe28d95f628382c7326c0054525559f7d205fc4d5e0b11117d862ffea38f4cad889c2d13dbf515e4f895900194048011e091039a765e7ed2e1c444b14d16b5c62f6521a6e29850 c29_2
def c29:AFn:=⟨2,72,[.tmp 4],yB 5 0x5bbfb6ebb29e28512c c29_4⟩
def c30_1 :=yE 15 0x1ef17ec51cf7b422b90b3cf3b757a497cf21a10b02f47be4a162cb4afff0ab7c911bc (.mdel (.leaf (.int .i64)) (.t 13) (.t 14))
def c30:AFn:=⟨2,15,[],(c30_1)⟩
def c31_2 :=yG 23 0x4bed2f2e108d22cb6ff71ac1f10c184309f6c3ff956f4bef2b46c351c386064629abaa93d4869609e3e368288531b6d1652e5f13410c987e1f4d746e63c55fe51c534a06a9e640e46956a902ee5361f1066614818cba5c30ef364f9ddbdffbb51c (.i 181)
def c31:AFn:=⟨2,23,[.cellN 4 4,.tmp 5],yB 6 0x109d2484b01b5c7ad3671112c c31_2⟩
def c32_0 :=yE 19 0x2ef64665e54fc8abc61a55e220b29b46b22c60e428c6285f6f774f6dd3691c7de27843d6cc (.lookup (.leaf (.int .i64)) (.agg [.i 0,.i 0]) true (.t 13) (.t 14))
def c32:AFn:=⟨2,19,[.tmp 4],yB 9 0x1282eddac86a396a72b89ebca9a6e096ae5ea7044909c c32_0⟩
def c33_2 :=yE 61 0x619d54714101837099bdb8d95f8656df639fac200784337637fc47096c8b69a95b5412f04e8903f97704aecc24c620c8d3427f9b59948889f57ff462377ceff345ee40a720bda3c49c53acc543ac756d148d0ad2a45523d086d8ab57546b22c334153aab92b3c89bd1f20b9b69939471d306113b80b682559a64edd962a5e7d1e69173020a2e9e3b9a0201d340bbd87d3055cf60aa6a238410 (.invoke [(23,226)] (.t 47) [(.t 36),(.t 45)])
def c33_6 :=yB 82 0xc2fe576d29f656f9210fcfc3b384491593b9d8cac5d5580710ba474edf357bde7f49cfbf11d06994e717d9e717c35aeb8873cdbdb32067e534c56e267b84ebad94b58b0e02c5d013053fb100763369932a04405b8e0c5a2626fefe550e18ff6a8698a3de5f643dc36d80d99deac66e8a1e9872bc3f9a22ca3ce10 c33_2
def c33:AFn:=⟨3,82,[.tmp 6],yB 7 0xb5ece925ebe2dd0512c c33_6⟩
def c34_2 :=yE 29 0x25bafd6a61db00eb36830f2661839951868c508ffc472ee39ccb82fbc11d8cc6bdcd011c926f5181c6db66f86187be7c3beabb3d6b66926d664796fbdab3874a111ee13be0cac41678686bb97e91fb05ecc2d3d2aa2d4c109c (.mput (.leaf (.int .i64)) (.t 26) (.t 27) (.t 28))
def c34:AFn:=⟨4,29,[.tmp 8],(c34_2)⟩
def c35_0 :=yA 9 0x1aebe21b0bfe0df0cf559d4ba3449dc55b4a237b283e1269619334e10
def c35:AFn:=⟨1,9,[.tmp 2],yB 3 535049883804 c35_0⟩
def c36_0 :=yM 12 0x28acf3629c132e18fae52a8018c4ce24b5b1616f5ac (.eq .ptr false (.t 3) (.c (.ptr none))) (.eq .ptr false (.t 9) (.c (.ptr none)))
def c36:AFn:=⟨1,12,[.tmp 2],yB 3 532422217884 c36_0⟩
def c37_2 :=yI 36 0x349129a51fbf74ef702f807cd67979d6855cda5f86ef580d6b46bf056e085aab873de0bfb61fc74f79b32a69a5ff90d6c633f595f51b7a92c0b87a3255a4b0f1893f7e2e3fc7344a461bc5d4814f695424eee08dc8f7fe87fc392299ed467f3603db3ad6c405cce8d8bdec4dfdb90 (.i 2147483647) (.minI [(.c (.i 1)),(.t 30)])
def c37:AFn:=⟨2,36,[.tmp 4],yB 5 4789558483587228 c37_2⟩
def c38_3 :=yG 57 0x91691a182ebcc78fc16241ceec1a04aa52a829a53ac6c74bede0bc4cdbdc06dfd0a0b93e7ec63fd126eab6ff68f79226d0387244764193493a537318b946bf114c9cbc342f7d36663adad2257942e8fb5f26ca722e02a0eff7eafee1fb966f436217ed67de0fef150590de9ff748c (.int .u8 1)
def c38_5 :=yB 27 0x1f3b5b8c9b1c4229789ff805109cfefa38fb425520504227d47b670e70cd7484af8903ecaee42b606528dc32f674d86d3223001dc01afd7868e6910 c38_3
def c38:AFn:=⟨1,57,[],(c38_5)⟩
def c39_2 :=yA 14 0xdf08d689ec6bacddcdf1f2fcfb932e75b48239aca5f21d4c56642aa4285fee09b1bd
def c39_3 :=yA 28 0x22bb7926c7ae266f2cc7479b698ee64d3e03c9bd178e29a88a6ca9491cd4e90aa52c6c6e291c421978ce59dbadf3ea83d3d0208a79cd78f65bef8f9d6f102179e12bb92784100ce0987fd613341db1653ce10fd4d0
def c39:AFn:=⟨1,28,[.tmp 2],yC 9 0xc87bb31a06053c80bd9c45e85ef072dec5166a509c c39_2 c39_3⟩
def c40:AFn:=⟨2,6,[.tmp 4],yI 6 0xe5fb396e23889bd7ad9a4fec438fe311bc (.nilfn) (.mkClo 95 [(.t 3),(.t 2)])⟩
def c41_4 :=yI 100 0x27de15251c671520fc7a6b9923e3cc1b1709753816705cde0f629f140ca3fbba118871eed3f8c5c9142ed7bfad6b21260e6a8569206821ce1003d2a6c1349a285943cb2a11c2ceb634a4c2561caaeca382d6234b2d7eb7d73bd95b56c2335ac (.i 2147483647) (.minI [(.t 90),(.t 95)])
def c41_5 :=(uF (fun a b c d=>jA 69 0xb7a223cc00d9a6d0a7f69639be4c23d8ee855cb7666435848cdee08cab5822bbc149b68fa32c37327eb02b3014d4aaff2a8a232e9baefbada86539d73c8e46ea9aa9914c8a82b943602346a823c176facb3ec41ff0f619c4faa547fc1fdfc8dac89c822d987c40018b2cadc0548de95eee46d555d11b6d25bf9a79be891aa2af5ac 0 3 1 [] [a,b,c] [d]) _) (.minI [(.t 57),(.c (.i 2147483647))]) (.build [.i 0,.i 0,.i 0] [(0,1,(.t 55)),(1,1,(.t 56)),(2,1,(.t 58))]) (.mput (.leaf (.int .i64)) (.t 66) (.t 67) (.t 68)) c41_4
def c41_7 :=yB 34 0xd31afe354c373ffb1f713d27cd75d537a72d7ef84d3a6391e2b447f40ef363f147b1e5650259a98f22135b45808144857170e9bf10634130b8cc53746d99a144c305f41448a4c563f32b4aa330aaa7fead09c c41_5
def c41:AFn:=⟨5,100,[.tmp 10],(c41_7)⟩
def c42_1 :=yA 22 0xf07b26e2897645a964a6ba6b800d08e203355ffc869654ecc6993c633c3201e5022efa981aac3c9d60cca54c775df8cdb5b768f03c03034c6a68410
def c42:AFn:=⟨2,22,[.tmp 4],yB 5 4789559279849628 c42_1⟩
def c43_2 :=yE 23 0xdc2a26e76acc5c32d1ed8f6e8ceca8d404a6dc72f139f3d7929fa3ad41e6972fdb0bba6371b8ba1e66a8b3eecdee99081ee8d606aa72cebf6b5469c22797acdf1d0355773b333c16aabae4bf7ee8de28a40b6ac12ace126909c (.minI [(.t 13),(.c (.int .u64 18446744073709551614))])
def c43:AFn:=⟨2,23,[.tmp 4],(c43_2)⟩
def c44_2 :=yE 31 0x109069c3839694682a6f9fa11246e2331b7ec460b39a592832eab8266fa2521ab288457b3749c2df714ad488c47f4e4037d7578c569c5f33dc4ed03d2297d2f2cf62ad81364e2a624483b2aa19a458136c884bf76a6a100ff5ac (.build [.i 0,.i 0,.i 0] [])
def c44:AFn:=⟨2,31,[.cellN 4 3,.tmp 5,.tmp 6],yB 7 0xa38adf88142fa04871de8c391bc c44_2⟩
def c45_1 :=yE 39 0x25fbcf831418f50f48c2c19d910131c47fcfda902b10958af7958e6ee8604025e56e4829756a56d20e0622e782f0b252f9857a2cf82464f7d8aa3ca80e35665a14775a3e9b19f0e6ca6c7225b82c4966cb4347ead1994d19b81b068539a3bede551bfb37c41fb4a29c2fbb5ac (.mdel (.leaf (.int .i64)) (.t 36) (.t 37))
def c45:AFn:=⟨2,39,[.tmp 4],yB 5 4789558881718428 c45_1⟩
def c46_3 :=yE 73 0x159fe9473b74d9cbddf7bbb93443fe405df9b66392f4765bd58a4ea6f470994267a70c153c8d1f4c6b78fc63fea8afbc6bb3be5252c3ab0956f5963e2a26d53e7787c (.invoke [(23,226)] (.t 69) [(.t 70),(.t 71)])
def c46_6 :=yB 54 0x769fb2557182e6197e161b5b83ef113abe32bc936557da9bb4e8ea7c74dad49c8d1416703ff617915a6ba02d421369913efe0cff9f67d7123e6389df344ac4b8c7b466b772105a7065cfdbaf3b901cdf6c1cdac4e7bff8ed138c245a366221325a12ef02c92b4211b76ab63fd84820cded43be06d7835005bee86d9880ce39a12f4736c c46_3
def c46:AFn:=⟨4,73,[],yB 7 0xa5919fda0aca709c c46_6⟩
def c47_1 :=yG 24 0x14ea0483b00e58e8ff19b9744213b655b331a16e1e905e324f477a36c9115b12cb56ab53514a99cdc48dada7ae16b67414e08e6462f3f781997a148c (.i 220)
def c47:AFn:=⟨3,24,[.tmp 6],yB 11 0x327ef55cf35336d7893069a1577e0e733bc12e200cd09c c47_1⟩
def c48_2 :=yA 27 0xfc59adfe691a3a8868d9eef565171e1f124a87c34d7051716ee0e63adf70136d7a7232b3e3b019b99f973afe3daffe2574fad5eab223aab27e07ac57410f90e994bc798630e778280e55eda3a122015b275293dd5a28603f02fd448ccb1e72f028512c
def c48:AFn:=⟨3,27,[.tmp 6,.tmp 7],(c48_2)⟩
def c49_0 :=yE 10 0x200e63aa47f8a0a471f77c586c703db9f4353512b9d45480fe634e10 (.eq .ptr false (.t 3) (.c (.ptr none)))
def c49:AFn:=⟨1,10,[.tmp 2],yB 3 532183339164 c49_0⟩
def c50_3 :=yE 56 0x65402e595716182854ee68d0063ff8394173fdf109dd2e973d62e4ffb96ad2a6345c232ed2d5d496b1f465674118ef96b30a714473345187f38e7a94d9b4f27a5b5d43130cc097d8c525251707717774a05e8b509e56152de62cdbd55bfaaa4afff50ee58e5b30bc6070950f6a602e1215f88f8e2480ce0e373171c246e4f19a533731aea71a1a4f44f690 (.mput (.leaf (.int .i64)) (.t 53) (.t 54) (.t 55))
def c50_5 :=yB 20 0x950df3de8ddc82ee2d0095f1dfbf4ca8959ad1d844cbf0d22b2be8130b70632fdf501867833bc862293b19be3accd455e1a620ceb26d1c13e82689f509c c50_3
def c50:AFn:=⟨3,56,[.tmp 6],(c50_5)⟩
def c51_1 :=yA 15 0x967055c9ead43241fb57cf5f5982452673604e721ffe765cf1654c9bc8f54894b481885b4f830731cfc3bdda3599d7f30412a712c
def c51:AFn:=⟨1,15,[.tmp 2],yB 3 532183339164 c51_1⟩
def c52_1 :=yA 19 0x4e3f7a305b123bac965e21b6e8e467329741b7ae5d67aaab263cd5a59effc0084aa1b777156b0a09f4b668bbeeb26b937866fd0
def c52:AFn:=⟨2,19,[.tmp 4],yB 5 4789559279849628 c52_1⟩
def c53_1 :=(uF (fun a b c=>jA 15 0x47ad6c06a19cbc0797bbdb01b17183482c800b42d99e414c9a169890429f4c2e4ea48d2ad6233dd6b5ce910 0 3 0 [] [a,b,c] []) _) (.mkSlice 1 24 [.nils] (.t 10) (.t 10)) .mkMap (.build [.nils,.map none] [(0,1,(.t 11)),(1,1,(.t 12))])
def c53:AFn:=⟨1,15,[.tmp 2,.tmp 3],yB 4 0xee3f9ac8fad12c c53_1⟩
def c54_0 :=(uF (fun a b c=>jA 4 0x30f83c1e80f706b40b3266909c 0 3 0 [] [a,b,c] []) _) .mkMap (.build ([.map none]++List.replicate 128 (.nils:V)) [(0,1,(.t 1))]) (.box 129 (.t 2))
def c54:AFn:=⟨0,4,[.tmp 0],(c54_0)⟩
def c55_0 :=yM 5 0x9b8407b858ae3833d75402dc .mkMap (.build [.ptr none,.map none,.int .u64 0] [(0,1,(.t 1)),(1,1,(.t 2)),(2,1,(.c (.int .u64 18446744073709551615)))])
def c55:AFn:=⟨0,5,[.tmp 0],yB 2 116227805340 c55_0⟩
def c56_0 :=yA 13 0x198e4551ae711229dfc97021725795a973fc
def c56:AFn:=⟨2,13,[.tmp 4],yB 7 0xc0b0b6a88d9633f6355d827e90eed73f660e0cc909c c56_0⟩
def c57_1 :=yA 17 0x27eb983f45377df5966eef0f2297e30d2a9219cdc621f0e7cfdf580449eaf6c5a402f286af29969d0e65b90
def c57:AFn:=⟨2,17,[.tmp 4],yB 5 4789559279849628 c57_1⟩
def c58_0 :=yA 11 0x696ca03015bbfaf6c88847a75f595b1859d7cc37578aa7a7b6ad66d7466d9e0d38a64e10
def c58:AFn:=⟨1,11,[.tmp 2],(uF (fun a b c=>jA 4 0x80f1d7d1006c9f1c2beb156f6e2d09c 1 0 2 [a] [] [b,c]) _) (.i (-1)) (.label 0) c58_0⟩
def c59_0 :=yM 4 0x5edd46a40733d9b3824c (.build ((List.replicate 96 ([.bool false,.i 0,.i 0]:List V)).flatten++[.nils,.ptr none,.int .u64 0,.bool false,.i 0,.i 0]) [(289,1,(.t 1))]) (.box 294 (.t 2))
def c59:AFn:=⟨0,4,[.tmp 0],yB 2 116227805340 c59_0⟩
def c60_0 :=yM 3 0x119018f8aadaabbcd2d109c (.build ([.nils,.int .u64 0]++List.replicate 32 (.bool false:V)++List.replicate 34 (.i 0:V)) [(66,1,(.c (.i (-1))))]) (.box 68 (.t 1))
def c60:AFn:=⟨0,3,[.tmp 0],(c60_0)⟩
def c61_4 :=yA 37 0x3580462cb08169fe47207c4e9ec17631146aaf0637e6673bb65aa0d5490ad50e7ad6debc24ce027c29971c57a8f94fa06eff1134657b2b33db8d058caa6c40dd6cd1f7011b0799e4ea77466bd6e23c337dd637bcbbbf7ce22ee8272391e2fc96d2bf6a45e67f9aae4456401e63f6e72d50184e1f3da7631ba196e3642ac4e6eb3edaf956696272211bc
def c61:AFn:=⟨2,37,[.tmp 4,.tmp 5,.tmp 6],(c61_4)⟩
def c62_2 :=yA 25 0x1f2df22a435725c903f398d5daeaf6812635fd2048284f7efa3f5916f5ac61c0aca9132fc4734730f4b21ea01c973550a12c64c6604eb3044694f7d484e046bf3cf219142d077f0af5bbb5ac
def c62:AFn:=⟨2,25,[.tmp 4,.tmp 5,.tmp 6],yB 7 0x1c2e621d6ba304310c11bc c62_2⟩
def c63_4 :=yA 35 0x20359e336dc693b53947a630fa3e28e5891cc2d7f3d575451655a9dfc85c6562147a9f79a11a2ba238761e8ba11b47188c8c098c3ddfc0c5b83c4306c9e851bc676057b9b3a6f90ea6ae55948da06ada54c57bee249d4ff001c866394d015ace9c1be3743b16b1c81db3efc431f936271e09dd94f49811bc
def c63:AFn:=⟨2,35,[.tmp 4,.tmp 5,.tmp 6],(c63_4)⟩
def c64_3 :=yE 36 0xfd1962f193e06a359585b75da50e1f009a2da19c0f5a8338f117ad3fee1f1dba14faa6269f021f49420001a536356341d98d55fecf0c70eb5f36a9ca5921d1c28657d46a234cacc870e0c7c8a345e25be7485271349654531be439d32bab4290e27f433b2c916ba701460f2039879a0167862d2efd0 (.build [.i 0,.i 0,.ptr none,.bool false,.bool false,.int .u64 0,.int .u64 0,.i 0,.i 0,.ptr none,.bool false,.bool false,.int .u64 0,.int .u64 0,.bool false,.i 0,.nils] [(15,1,(.t 18))])
def c64:AFn:=⟨2,36,[.tmp 4,.tmp 5,.tmp 6],yB 7 0x1c2e621d6ba304310c11bc c64_3⟩
def c65_3 :=yE 116 0x1afd1818bc32c02237192b13da298ca01d18a8445949b0dc2a334dcb56bcf5001fd716d6022c731121291d0d972e456e209c9b22322c7603f1bcc2ba7bdcbe05f8df24ca2564cd179797424d8afd67487d4d66159a11e2326733feea62d2ca998f217e0d65d4d5c0006e728e7874c4b2ad4671a07d6abccd8e2c01e0fffdbde5357ca77cbe70de376450d8511db00de2bd99dfaeb35d0c750 (.slice 1 (.t 113) none (some (.t 114)) none)
def c65_7 :=yA 77 0x220705a1af903d44a4fa47ed338285e20691200b3c4cc563a7e13c3b034bb2f53578f0fa50f75bd4024a42f0cce6cc18cc1df5377db62f17d204fbd9a97eb39417bf2ffcc5f8e2d92d5ac11e2c8a2916d0f2e83c12f9e14689ad2553216d69cf19845531d0758fb901fcfce657db8badba891800102c49fe4e10
def c65_10 :=(uF (fun a b c d=>jA 86 0x1243fff0692296c151f061703fbcb3af02f04be586aabe718cb9db2f2ec8ba8088b8492091a3de3ddc9aa57569d447c116f37020115df2e624cbbf89df57172212c91dfa251cd61869ed781c2416fce5571e6d601bb877ac529c17da4a9144f036f49554a2caf1afed42599129e0c4875707ae7dda67931928e0c79ae93555d8bd185aec7868d658c945fab6d9190 1 1 2 [a] [b] [c,d]) _) (.i 1000) (.build [.i 0,.i 0,.bool false,.bool false,.nils,.bool false,.int .u64 0,.int .u64 0,.i 0,.i 0,.bool false,.bool false,.nils,.bool false,.int .u64 0,.int .u64 0,.i 0,.bool false,.i 0,.nils] [(16,1,(.t 43))]) c65_7 c65_3
def c65_12 :=yB 31 0x799445d0516a1543f59fe67feb91287a290503b9478d6034a40e111ebd7024caf152b69dd853aefedd60027d682b24fcbe9f52f7e6c6146c23349336d1268200571efd72949e01198c516392dde8ccd9d704fd909f10 c65_10
def c65:AFn:=⟨3,116,[.tmp 6,.tmp 7],yB 8 0x1da1d5b8829fb95512c c65_12⟩
def c66_2 :=yA 30 0x8cf516a101e47d1b6096c6726802971461ba73759b8870ea5982a45228addf6cc
def c66_3 :=yB 55 0x13907eed07b3acc54b1cbdd789a6f0dc3f05bdc44806651782bee9269d54fec288a62b15a22045628027f3f0d9bb05df675d21db7675536f608ce6e2b6de4791ea3d0d0461cb0e8efbd3250d1d94f08ca6f197b63e1696eccda6a08c2ea961c65e5bee73886c26910 c66_2
def c66:AFn:=⟨6,55,[.tmp 12],yB 13 0x2c462577e7edab909c c66_3⟩
def c67_3 :=yM 79 0x27baf4ac463423ae303117c60d69cd515ee525be3efa8fcd50bed3980ca76c2832572f62739431fcab12bb4c283bfc1cda89acce942b9455cda41d99a83f02d1e45d108b2651c28fe4e345d34a4c3ddb8ffb7c1df426747c279c39685ab53e69eb7974f3a651e694d060d27a1799fb7e2e54d2133f82d812f976856c12b22ca1dc7b7eb44f75083be4b6f0713551c (.slice 1 (.t 48) (some (.c (.i 1))) none none) (.build [.bool false,.i 0,.i 0] [(0,1,(.c (.bool true))),(1,1,(.t 72)),(2,1,(.c (.i 0)))])
def c67_8 :=yB 44 0x2da9f9078250cfd6b336f6f27fac65f30fa88dc41d232517cf087f25c1653ea8891da7dd1d5d61e6b8936489474ec6615d56dfae23fc123e9f5c5ff4e10 c67_3
def c67_9 :=yB 35 0xde78c8e6af2b440ce3da3bf696eb73e271b61923548b6030081f8bba5dfb6de74fdecb7b740fd271a989a7c1e5f6d842c5c6de479db9a9a537152e233eeed7b891874f45850067ee77b7142b46176d7aa1b4a3f1f6dd976f020ddfe90ff8e257649c4b1b50124c547cc7c05d5007ab3961cbda63eb39310ddf537a53a89cd9836284be102b7d5cb6ee58cc8c7ca243b59843db951127b4ea9d16eb56cc c67_8
def c67:AFn:=⟨2,79,[.cell1 4,.cell1 5,.cell1 6],yB 7 0x1ed8e4150c15b12d08a6cce53ba8d0e5724c c67_9⟩
def c68_3 :=yE 94 0x2ee24ddfde898e6ec0d6b06916fb0fb22103f0a8e8209003d304cb92d58f144d00e4509a8bc81bdc9c20fe872997a080c826cfffe78cb14a7da5a0fcafd22a91f59c1fea03da2ab5486998413e92b66b9015d83c80932a56d88b55429867d7e25eca064960442d1fed383ae7bfd782c4755dd7d8a816ab77490272809ea8c773a2a8905399c (.slice 1 (.t 65) (some (.c (.i 1))) none none)
def c68_7 :=yB 53 0x6bff4ee09bc62cfe91fde1bee6def45ae2a061e94a8e422ac6edf604be692e1c913de457029438cce140f710d32db06dae612351e4d5bdfc0d862686eb15ba934b50dfc88c923f05c35365f1c28f5fb7eed1970013f6fe6ef599086b616d9b6f39abf45b86b3c2d9993b4ce3d415fc61cdc836953180de72de4c60a3a5b2fd71b924c7d7966e2eb06781d0637d50 c68_3
def c68_9 :=yB 19 0x2e518340b997861e654869c34acc09a1f16a38c061297c2733695b40836a34707ce038aaaf161a826c1a148c c68_7
def c68:AFn:=⟨2,94,[.tmp 4,.tmp 5,.tmp 6],yB 7 0x1c2e621d6ba304310c11bc c68_9⟩
def c69_6 :=yA 53 0x9e4a852d130a86c4b59541b21feae02732d5d3ced44260b86a45c332f4ddebfa1a8bc94c837e7f6b5c4054da18a6cc7d21e3764c91d3af1ba9d1c63d8bbc29b1f0c298ebf40a1e214c53dbd89f132ad4e910
def c69_7 :=yF 40 0x32ccda81daa74ffe7626d49fd69aadffbc0e2d509b3bbf7e40d68d2f6f423595dd18a97df3e941094fa29a9feb3abef2e8a03979e3d323dbaaa94b0e801ba46a12f203c4585be7abd8021f31b6912369a9aa433e6208fe5b80e37720771767dd426c5b3be29eb968bfc17aca7e0e5ebae0f871fa70140fd7fd0a5f503069cc64f603b1af0779299e46a9edbf6f2eeb4e869ddedc7756113c63f7a163c (.eq .ptr false (.t 30) (.c (.ptr none))) c69_6
def c69:AFn:=⟨3,53,[.tmp 6,.tmp 7,.tmp 8],yB 9 0x24420b805a62004712851bc c69_7⟩
def c70_1 :=yA 86 0x1af7a6e5af838a8370126abbf5da473113520668dbf0bb34e0964522340f269d31e62c21c5d0b0629b2fd129741391dfaf94abcd9652f42b52863edcca6b519ee3ce54c43c91bd22bae0cad2a26edac0d98f801113cf31625eee1504757f6d0
def c70_4 :=yB 59 0x96fcef2066c36130a67ba81307d84365eaf88e4b20ddd0cd830a89f2a1d4cafaabb127a06e3994997084e165d92131485f2050b3788d4cafde8d607c5eca703ea45d3ce9d8a43908285edc1e127d5650019c28f1f61e04194b005ac31c053e7e601b65717b220559a5bb79cf344ad192fee130ee75ad9b66628b230134e10 c70_1
def c70_7 :=yB 31 0x820980357005f30f519b0489f03e094493e030fc7df1e7cc1998ab58c34616338920e31171f9222d60ea4a808ae35a03bf164e374e2dcccfc3f1cde127a4ceefe9edddcd225d06390723185cb45417ac387c3919e15d30370d4649a148c c70_4
def c70:AFn:=⟨3,86,[.tmp 6,.tmp 7,.tmp 8],yB 9 0x24420b805a62004712851bc c70_7⟩
def c71_3 :=yG 63 0x6cc111b1d84ec6ee0062428b49ac985e77069dfd9834d4aee39704a8697c68c72041ce94cd70990c9caebc2a2a5af3f64e1cc07a86256639a51552a44acc0a11f485e2840e486eb530c8dbb06735e5fe4555279772405c8f65546b59537135ec4c66fd7c4887ee466def971ff131a60d19d80e7d31cd2dc (.i 114)
def c71_7 :=yB 71 0x357fcc257ef78aa17058526b905e950df49f79b8fffd67230b47a3a6d44231f470ca8e6e3ea22b3ab645e5be6dec9d9761844925272c369e2360cf41a8a6e4d5c170e2a8dcbeaadcc77cc356e215ee7f1f93c2e0418dc5cbf439a81a93189920d74780c61e21e5b6792dfc47f7a557160c1bff955f9832da5a647e7d07ce7218476b85d35476d4aba842de25395905eb7196a6a4363c c71_3
def c71:AFn:=⟨3,71,[.tmp 6,.tmp 7],yB 8 0x1da1d5b8829afa5512c c71_7⟩
def c72_2 :=yA 76 0x262b8ebaf43631224efa3a3db4a321fdbbb8e0a20f88ba9283ac867d9198dfe940046fdff02b14bd139e789d1a0a7085dc721a139d63d35a8c0aa22abfd22e1e3d934480f996b854d0
def c72_4 :=yH 65 0x420e73be1d896563a3b546d00d5b18b254e80b94dba3b7fbf621c241bb258cf16f1df359b5745397652d4a7583f5a6cd5533313d692399b81976597a1eee68f165243f03acd755b5d8c69d025891cf5b7082c5c9e339af64bd77186daffa127c02608bb1e26c19704c32aefa119b6fce48711b57690 (.i 114) c72_2
def c72_6 :=yB 31 0x6ded1c47aa0f959309d72a8044d4837113b3710ebebe3902c9fc8fddb9d4fcb52e0da243b455d174c1a8f6fbcaa6d434e4d172826f78ebe244495806713b22870e17e60656bdc28a3b52814dd7a4ab5fabb0370d4649a148c c72_4
def c72:AFn:=⟨3,76,[.tmp 6,.tmp 7],yB 8 0x1da1d5b8829afa5512c c72_6⟩
def c73_2 :=yE 44 0xa99ef0290181b106ca1acd78ecca72c0e536638a0441e97d14901e9f471faa8bb30762d64265d852af36bccbdd6b3a36a99b6d64486f5dce14c92a8764b9edf83c5dad8c675e926efc6b7ce32560c9fef3fd54ca554f7ca167a23bb20d7fde0343f6887f423e66209b9dcb4eccbc9b9b83dd7bae964c3e02c0220bd7823ad1e9803e7a7bf7c3de40dbb63c (.eq .ptr false (.t 27) (.c (.ptr none)))
def c73:AFn:=⟨2,44,[.tmp 4],yB 5 4789558483587228 c73_2⟩
def c74_1 :=yA 45 0x7a345db1c4fe9da8f42083da81ab4e06b15fe8420ae2ea3e08324fe8dcba581338cc6332b1a85819e486e70068690f68c4ed2bf51069420f6966de704f8a7d1d4d82da3b76b83fd2ab4edaca6350dc57027799e495633200cfcfc429222dd49aa034dd6d7e8e17c75d82084a76c1846033e42796544e4dc81b32cfe57e0b1080d80b630ac06cc9b1948c
def c74:AFn:=⟨2,45,[.tmp 4],yB 5 4789558483587228 c74_1⟩
def c75_3 :=yE 51 0x7400172efc7b829004734bfa005a569e87a7e6fee752cabb1f7f3415cae635e8b7e7936e7795411b6f8009ebef8953d107c269a2f44667f427e47e8527553feeadd0d79accd0d69c4fa3ffdc014c47941bbebb02cdadaf4a3e61a9bf9c64e600f05c0e6d50a00c760bf33e26dfdbd81c85796a8916a48810ee5d877d18705f214b13fc (.build [.bool false,.i 0,.i 0] [])
def c75_4 :=yB 20 0x2736fd8e3657d13cb4d6cb730ea38c09a679953b68fcbd5d49776b5ac1ff808e2f524a6dcf7df841d23e2b1cf0d47fc87eff63c c75_3
def c75:AFn:=⟨2,51,[.tmp 4],yB 5 4789558483587228 c75_4⟩
def c76_3 :=yA 53 0x143b34127a3251deb771efdb7aceffdc5c427029512708c81a531d8091e744e695c0b0f94ee6bd4be962a50bbe148d17e2f576da557b88499e8ae466df5b4a619b61b6f8aa8b5435e2e87697ed5ee2995fc403d02491d81940979ef41f446085331a62a8b9751103244afaec48be211fccd3fac8619cf28e3243aebb23a2924c
def c76_4 :=yB 16 0x431af43c99ba8048237def2c4a1e7bf1d57ca378795de361dcd270d4c3d5ff328b6b15a65bb48c c76_3
def c76:AFn:=⟨2,53,[.tmp 4],yB 5 4789558483587228 c76_4⟩
def c77_21 :=yA 303 0x17888e0d6b074410225dcf8f4cc0a7f83999524a3cb47197e808213039c49d83a97ff0dc150bd701a6d6c25651ac2f9cd19954a722e90894558537a523065b8a7f5ac
def c77_22 :=yE 281 0x338183b77f2f2d3d5bfa47551871e09172f4543fa6104605eb3a69b7c4df5395b84388b0c6b71400dfed97ed6b3265d1eb2a401814e55c9130badf68bd0a2aabfd7b66e144db8538ad2040148ce08b30f5f8788a330e59a5dbf633f91d618c746996b30798900d9828b476c90e5f7a7880e62ee30807d844502989ce71551012559f66b7f43f53f96471be4919e2b83673dce47f36c (.eq (.agg [.int .i64,.int .i64]) true (.t 274) (.t 278))
def c77_24 :=yA 249 0x1fd1ed2514ce23685bbdc41141ed11f379b9362125a1abb6c8cb67a00d4f9d19635b391fed6ba3e615c2ef1b1670b633983c051b48c
def c77_26 :=(uF (fun a b c d e f g=>jA 333 0x133c58aa90f25678c179564a653e686eca8433ba76f368ec156423665a41c107b6a4bdb91cca312551904dbf94fac2035dbd29780c5d5ec6c826ebdfde6e7f734e1af1543ce659974a514f2f187591b50ae50287d469b3a603ef6ebcc2f01693a8187ca6f8fea3800d5406487a84dd2074074cc807258c4a630109413a9e245552c69653bcdb2861766dc4084d527d4cb85edbd221d62a15cfffbdb16f45e03004a50d12c 4 0 3 [a,b,c,d] [] [e,f,g]) _) (.i 17) (.i 18) (.i 19) (.i 20) c77_24 c77_22 c77_21
def c77_29 :=yH 231 0x7324cb5770274778def8d511792eee1a9db56c74962c3cf60421dfa0265d096c988e90a60950cdbc7a674c27ed039076d176ad453d67a7cd879a25835d5675fe123b7eaeba5daa0da4edb9a12998e0a8f60abe4933047b1a240075743562f6df368eb3734647ae216adb0bac054935a3916eb1803130b5f9006fdca2ce6e603fe2c9f0782f74c261660fc62512c (.i 15) c77_26
def c77_30 :=yA 157 0x330236f8d05d1ba9ab66ef7fe0868d58726501269ecbe48ff2984f3f5d69243bac26d63f92fd31012206b437774afa7dcd696348c
def c77_32 :=(uF (fun a b c d=>jA 191 0x18897fd1ff97262939f5a850a3ac775d8e85d53319816b66809e10092ca2bf98de201f5ec39c4cc22ee084d1563b19359b2abe1dda61ed0dc60e222b5f41d20ae7bb4ab2c33aee34a7daaa9f704b61bbd856eb1d8bd7e96af67f717d031ef7c3eaaabedd19caa79b41e5fdc4230a6e0e8d59e70d94d88e5aa32137633b368ddc5fe3895f3494e16e618ca015c29d12c 2 0 2 [a,b] [] [c,d]) _) (.i 13) (.i 14) c77_30 c77_29
def c77_35 :=yL 139 0x3e15edd56308633ca6081cef0f059c20f53ab895e4c9253c6d1711c2d453fd38fb5753c723c8b888d3f2770834eff2d0e7060f51de172790b62aa926f4fd6e42bf3235eaceb9fcf02e0474595f83b952d57e6572a9507903005e3bd876227a634c4e52c276ee0a34948236c67c1ed4cc74300ff1c61ab0f9cc6d0c890b14c28970ac9f0512c (.i 11) (.i 12) c77_32
def c77_36 :=yA 67 0x8c8444a6792b4c1d47c10144932e7e2af91526f535d50cccffc16b16676c58441cffce214348556a67afeb85e91dd525b79a30fb95eb882e9b1c7b85b6ba5a9b2e44004540bd95407a9f1106c6142a109dcd3787c22b094212aa6dafbc80a08eb2161b98d35375c
def c77_37 :=(uF (fun a b c d e=>jA 103 0x97ae55c356e5fd0b95a2ab143fef1f3b4c3354055fce59b8420f7c2a777191d0cc0515fa42d0ef36fb7a9ff001c213b2ea9cb4dc6fb4e53364471b1b1c8872eb2d6c05c7c09c149b52ad1145da88a532a27865fecce14ee9ccb1c8bb7c45a1ff28d20ca60054cb241166c69859e3bf2cf4d07c7aed69fb3bdf4f4e028715caa4a293ce08becd1c52c1ccb12c 1 2 2 [a] [b,c] [d,e]) _) (.i 9) (.ofBytes (.t 93)) (.ofBytes (.t 95)) c77_36 c77_35
def c77_38 :=yB 34 0x2782eb5decfb7c0157e3e698d75a446c752d7d31023a47cecdd12c c77_37
def c77:AFn:=⟨3,333,[.tmp 6],(c77_38)⟩
def c78_0 :=yA 16 0x6c4132b4e25bb4877dd3a56de6df3958f3c71647498a71212c4e5b336cc
def c78:AFn:=⟨2,16,[.tmp 4],yB 5 4789558881718428 c78_0⟩
def c79_0 :=yM 12 0x28acf3629c132e18fa91427e983a6c4f35b1616f5ac (.eq .ptr false (.t 3) (.c (.ptr none))) (.eq .ptr false (.t 9) (.c (.ptr none)))
def c79:AFn:=⟨1,12,[.tmp 2],yB 3 532422217884 c79_0⟩
def c80_1 :=yM 22 0x2ece4018dd45ff9e4d360c8c4c69e34399dfe5510db879e6e00983edcd90b9a35894535c21b94b258784834e2b55c590b5aff9ad40fd27ebbc69abcb46467dd4a2efa1fb7452ce10 (.build [.i 0,.i 0,.i 0,.i 0] []) (.lookup (.leaf (.int .i64)) (.agg [.i 0,.i 0,.i 0,.i 0]) true (.t 15) (.t 16))
def c80:AFn:=⟨2,22,[.cellN 4 4,.tmp 5],yB 6 0x109d24861a6e0e249b671112c c80_1⟩
def c81_0 :=yM 12 0x28acf3629c132e18fa91427e983a6c4f35b1616f5ac (.eq .ptr false (.t 3) (.c (.ptr none))) (.eq .map false (.t 9) (.c (.map none)))
def c81:AFn:=⟨1,12,[.tmp 2],yB 3 532422217884 c81_0⟩
def c82_2 :=yK 47 0x2e0319c5f3e6ad68e95a30778139cd5db012afccfaf78339178943f62140e72201f8a402ed42a641ab11298b04527c9789e9b735a061c6eadb1daccf7525e34397c358d974d9b9d16247e48ed2d3c07d8646e56fc24c0d6e5e8175f6c06095eb5e1b9ce77cfd952a9b8263967f4919e22f3fa8f4c211e9c14ff0be5eab75c (.i 180) (.i 182)
def c82_3 :=yB 12 0x12b570f690c516314029d0c629a16aba1a8dd8a281587a2fce030 c82_2
def c82:AFn:=⟨4,47,[.tmp 8],yB 9 0x1ea6b1cf4c12109c c82_3⟩
def c83_3 :=yM 37 0x496d65405a2bdf3ac31c2fe8974811d153afcb48e4cd4fd559602af718b0a684923670fc8dc401483d485bf54524a1cd46dbcdf41887dbfff652480dba2a7a6e380235385c034db949cf48d08491767280a70c7e14fc4a118becef3ec8d4d64554dcb988ff546cf95ae0b88719ffe93b2efd0 (.lookup (.leaf (.int .i64)) (.agg [.i 0,.i 0]) false (.t 30) (.t 31)) (.field 1 none (.t 32))
def c83:AFn:=⟨2,37,[.tmp 4],yB 6 0xa125d43d4e0d782e6c109c c83_3⟩
def c84_4 :=yM 49 0x2fe4174164d0da6cc8b50a57b40ca6deb0c1d16b1a636a2bc986b8e05ba8803539c364f6dab197bb9df12cdfca487f39a1ccdf75599064672edfec8f331aa3e0552d1bb5ade00accc3406e3f3fca683515e8b90b8f571ff0e526cbec1db2f59fbada070a6e63590568b25eb1ab6354c950f872072b016b1fc24ae461395e04ec52d37b0ff48d046d42d68b4ecc35187fd47cefd33322f94ac73f78c38e910 (.build [.i 0,.i 0] [(0,1,(.t 28)),(1,1,(.t 29))]) (.mput (.leaf (.int .i64)) (.t 26) (.t 27) (.t 30))
def c84:AFn:=⟨4,49,[.tmp 8,.tmp 9,.tmp 10],yB 11 0x2c513520e4448df2aa4891bc c84_4⟩
def c85_4 :=yG 22 0x465b3c645e05016b75724c4e91ad18246ba4a169b2c61b102492216a31a50e5e92905eb9e72700d70f6101fc95f097b986989bac85fffc434205f0611c4d4690cecf3dd0eae773e5829c660bb1bc (.i 180)
def c85_5 :=yM 51 0x1699d4919b6558b66955da0a689ab7c5fa7f21392cfeb952e930a986728a846e227c3e2eb469ed46072f4852b9f4d5a9b85067494c66a2ab11d7e3cf064778368d6348f07e1c1b72d02018ab3f5d64fbe7927115bbde5a9011c9973562d4667c98fde1c85fd548c (.build [.i 0,.i 0] [(0,1,(.t 27))]) (.mput (.leaf (.int .i64)) (.t 25) (.t 26) (.t 28))
def c85:AFn:=⟨3,51,[.tmp 6,.tmp 7],yC 8 0x1a576e82a4b37c29d59d512c c85_4 c85_5⟩
def c86_0 :=yA 20 0x6d87ddecd38dba9fce97ba530e86e73002bb4d3fc4024c5d8e2c72497f790aa45541baadd48c
def c86:AFn:=⟨3,20,[.tmp 6],yB 10 0x1f5a9fc7e1171a371b97ea9a4ffd4d76313b41346e509c c86_0⟩
def c87_1 :=yE 98 0xfebc955d3059191135beeb908744110f59270351474ba14dac0a347192b48cb8628f9e27fa2606bd2d638e85003dbc407d8e28d999a7c28d7178666d6779cbd43025997256c20b5453b228 (.mput (.leaf (.int .i64)) (.t 92) (.t 93) (.t 94))
def c87_3 :=yB 99 0x519aacdf1663251fc60d2d168db02090f2d20b354389625e48a3a41f0c697aac9461778c411c82712648e031e974f72f8218e22b541cf885e672ef5a8cc0d2543a7583be32eea2e2f7f59e1ce666fb91a18d8ce479526f4819fbf04ee5fd3c349adcc6c20b03a1a4257f9b40745be394de150 c87_1
def c87_8 :=yA 18 0x2999b19e663b1c5fa090ce2663631035222752634f51c8e6660c9f
def c87_9 :=yN 105 0x1ef2b76eaf2aaf79cbd391fe9b90c26a6119854982b6e1211762e7b9fa5c54f676780f408d44d1d21e04329f4b32b6a074670272c1057aeadc740fec65a6dc9a9fb2a88c90dd00ac8e355074e26e53ec88fa661dfb8355d115304450460cdde42a17c342b35516c7fffbdae467ddba107fb3885c8b40569b4c812d4825403e535a3b28162a20050d6c05d39172235a74b31edfce030 (.build [.i 0,.int .u64 0,.int .u64 0] [(0,1,(.t 21)),(1,1,(.t 24)),(2,1,(.t 28))]) c87_8 c87_3
def c87:AFn:=⟨4,105,[.tmp 8],yB 9 0x1ea6b1cf4c12109c c87_9⟩
def c88_1 :=yE 12 0x3e74f9865516d1e62928e0bd51a3112d9242c4595b51708893535f382fffe9bce32b68722f004f1a2ae0b68785caf109c (.eq .ptr false (.t 6) (.c (.ptr none)))
def c88:AFn:=⟨2,12,[.tmp 4],(c88_1)⟩
def c89_1 :=yA 13 0x13cd27dc47ea229bdd421dc2dc62c691ed1c6f69c6fca985f5736fab22f7b00a933f1b62b16111b80dc6e58a8be6fa30adea2fff6c36bb1712c
def c89:AFn:=⟨1,13,[.tmp 2],yB 3 532183339164 c89_1⟩
def c90_2 :=yA 53 0x22805950e40bc39fc11a057980dbf592dfb6496215e716b4c52d8f49396defad4e96acd5cd73fdcfe199fbc12766c6cea6c52aff8e75c4039b1eceb4a8f09f964297bdf7775ac
def c90_3 :=yF 31 0x5076c6398e99d0adff6ae8499631dfb802f94db2da1a384d046785720311feee1c23bf7399611a8f943d5c67793c4cebba639b4ba91ec8eae7c661d354cdb1cfbbf06bad4468210ad0 (.eq .ptr true (.t 16) (.c (.ptr none))) c90_2
def c90:AFn:=⟨4,53,[],(c90_3)⟩
def c91_0 :=yA 8 0xa4dd65cbb174b1548e328197e149045c8ebf6e30d09c
def c91:AFn:=⟨1,8,[.tmp 2],(c91_0)⟩
def c92_0 :=yA 9 0x1aebe21b02c61bf07437efc787308441dda71843283e27b4878534e10
def c92:AFn:=⟨1,9,[.tmp 2],yB 3 532183339164 c92_0⟩
def c93_1 :=yA 25 0x2b602c69e43b8ab58fdad56cf4ff802ce907911391c621a74499b9a05e6fb67c7c9d71d6f0f2bbb55494e02365fefe189354556983121e3237caf1963c
def c93:AFn:=⟨3,25,[.tmp 6],yB 7 0x17d6b927192d09c c93_1⟩
def c94:AFn:=⟨1,4,[.tmp 2],yI 4 0x3e74bc8c76a4aa590df662612c (.nilfn) (.mkClo 159 [(.t 1)])⟩
def c95_5 :=yE 39 0x1c20a4820fd455be314090d6b57e7005d2a4211048f2cfa9c800397f8c29c87c83b56ffabb7ae9cc42a5f2ac6d44ac139e5720c79433fe83bc674fd9a4ff588bb39a8bc5b05cc0836451f3742d772e57eb20c5073f130b2a69edc835785d40141ae3acf927347f9e357cfaabbb6bc08313743742033b3a2c3f38beb5ecde8c88a83057e155eb150b1198b2aeecf388501752be577a2c55c3a95ef0dec3f715ff0d5548f90b32dbfb59bdc7ff71bc (.callv (.t 33) [(.t 34)])
def c95:AFn:=⟨3,39,[],yC 2 81082 (.label 0) c95_5⟩
def c96_1 :=yA 19 0x83fadf3be2ad52a1c8c19849cfe0f55ccfb049d0793d5ba68254799372133853e25be8329c318b890803fa7fe386b2880524655a6651a23cc5b90
def c96:AFn:=⟨3,19,[.tmp 6],yB 8 0x17e685f9bedcc16c67a921509c c96_1⟩
def c97_0 :=yA 13 0x2c77619e9f081215c09cdc4ecf8259386fb45fee29289351c
def c97:AFn:=⟨2,13,[.tmp 4],yB 5 4789558881718428 c97_0⟩
def c98_3 :=yM 31 0x4a1c6ee6b46bd77e998eb2aef5ee51569e8cd2a627d95432256edbaede35046b00e6268b2eab21c1f5ba354251479be1d4fa1612492fa75b12dec76ba2b59fb49d5c573f4355dbf7eabf9bedf374f3f2bf0b664648710bef91e24a7c8c2a7372344077580bd8dd8f954d0 (.lookup (.leaf (.int .i64)) (.i 0) true (.t 14) (.t 15)) (.mkClo 163 [(.t 3)])
def c98:AFn:=⟨2,31,[.tmp 4,.tmp 5,.tmp 6],yB 7 0xd4bb56581676ddd1a0b48f924c c98_3⟩
def c99_0 :=yE 8 0x97181ddb1483dc310daf60ea68fe0a697dc80c68f073dd106732334e10 (.eq .slice false (.t 3) (.c (.nils)))
def c99:AFn:=⟨1,8,[.tmp 2],yB 3 532661096604 c99_0⟩
def c100:AFn:=⟨1,4,[.tmp 2],yI 4 0x3e74bc8c76a4aa590df662612c (.nilfn) (.mkClo 164 [(.t 1)])⟩
def c101_1 :=yA 16 0x12f5ddd256307c73679eeeccb544705a0618524229047e67c8e7a97d1ed3a347c42e3c82b001ad56708950bed69b86b93ca5d11467cb5954d0
def c101:AFn:=⟨2,16,[.tmp 4],yB 6 0xd6f0a7a432590d786760109c c101_1⟩
def c102_3 :=(uF (fun a b c d e f g h=>jA 33 0x3f3e50432389f7926e3be33389b8d9c4079f123655bf22e2488f8a912e9fb740c6b4add97320375d1d988879e2d08f5b59649fa0347ed9eba29153ab6f03975f587c630213b84e22d3f933b5fb614ef0398055e1df36c 0 8 0 [] [a,b,c,d,e,f,g,h] []) _) (.recap true (.t 0)) (.slice 3 (.t 8) (some (.t 9)) (some (.t 10)) (some (.t 12))) (.recap false (.t 17)) (.slice 3 (.t 20) none (some (.t 21)) none) (.slice 3 (.t 23) (some (.t 24)) none none) (.slice 3 (.t 27) (some (.t 29)) (some (.t 30)) none) (.clear [.i 0,.i 0,.i 0] (.t 31)) (.recap false (.t 32))
def c102:AFn:=⟨3,33,[.tmp 6],yF 7 0x3da4c7d7b709c (.recap false (.c (.nils))) c102_3⟩
def c103_3 :=yI 58 0xb696a140508efe00fa3ac9c5c1bb839604b534eae33126edacdde19bd1c3ccb9755b7e94c47a1531fc61f0eaf7b2b93dee7b436262c8a1a1697b506cc8f770f55d79e5ec537992c1f9bfd305b94a257a0ea0fef45e8e8fda9455fa2bd019966cfbd238d5b31c5e2b11b3e81d44055a3b93ab01ef713c2830ce57a5d0340630227ee8fe1443ff4a167e03e56971d8f6b63d250efd0 (.i 181) (.mdel (.leaf (.int .i64)) (.t 30) (.t 31))
def c103_5 :=yF 20 0x69997f2cf87e511c252621f2e69e1d4a0f714c14bb3308c230e8810f70fca9e1b992e7a7f83d74d9bbe0b4cfe2fbb31018a1ed13cc4e10 (.lookup (.leaf (.int .i64)) (.agg [.i 0,.i 0]) true (.t 15) (.t 16)) c103_3
def c103:AFn:=⟨2,58,[.tmp 4,.tmp 5,.tmp 6],yB 7 0x1c2e621d6bc7269ffc11bc c103_5⟩
def c104_2 :=yE 59 0x30cfeaf7b2767a75c3b3ce1ca8bef38c86b29182a44eec9fd468968c893b5c9d733dc8166d8f397ef96198e893603ddf62fc2e86fa0346ba360b30ac818208606ed814676f20500d8bb9dec8750651d5474dc6b25dfd4972d8b60beeaeeee8add74df12a1fee8e869182b09b2936c (.mdel (.leaf (.int .i64)) (.t 35) (.t 36))
def c104_5 :=yJ 32 0x26dd01bb81d09519defc9474d6784893596c027d1e3daa29547792bb362e2655037c1e53aac2ed3609a54d671d31d22487e16a0f4b858d1a7be9383c44e6a3460a9b8edc393d8dc0cad20a43591db54cd0e9f344c8288291ab69daf649abcccca6e795c51c9ce5041226e27697b50c5ce10 (.i 181) (.lookup (.leaf (.int .i64)) (.agg [.i 0,.i 0]) true (.t 16) (.t 17)) c104_2
def c104:AFn:=⟨2,59,[.tmp 4,.tmp 5,.tmp 6,.tmp 7],yB 8 0x2307a7d0ffb946b59fee51124c c104_5⟩
def c105_1 :=yE 21 0x6587ac8aa9c7eb21d27cd49a973cff4b593bb615a638da483aad7461b92f20827e4318f546ad4b15ffef1577826e8183d3bb650f90fe6df2792a5c79676797ce112c (.lookup (.leaf (.int .i64)) (.int .u64 0) true (.t 14) (.t 15))
def c105:AFn:=⟨2,21,[.tmp 4,.tmp 5],(c105_1)⟩
def c106_3 :=yE 50 0x11c6d9fd62b093fe3b328dc57ccc0922e3e7d8b528a8f448abdf518c896de6cbec223433570f0999fcd9fe37e6fb832aa84bba632baddf3ffdb6aa96f6968ad2323545959bc8647640cb51118e441766a7482dc77c521908af489a26a728e417d16ba40816d1ace6ce9faef9b712a23a00141419da7838888ad0 (.lookup (.leaf (.int .i64)) (.i 0) true (.t 20) (.t 21))
def c106_4 :=yF 16 0x52ee93521f52f170e0efb04ef390f7a47d2911cfaf8f8c8776e7f4bba2d64c6910 (.build [.i 0,.int .u64 0,.int .u64 0] []) c106_3
def c106:AFn:=⟨2,50,[.cellN 4 3,.tmp 5],yB 6 0x80e21394325e34c59d2112c c106_4⟩
def c107_1 :=yG 15 0x15497e7d5327ed36424fdf2bce3318d0463fc738893564fdf4f43d5a657ddf541012eb4c29709e13c4adeeb2e134810e4efce030 (.int .u64 18446744073709551615)
def c107:AFn:=⟨2,15,[.tmp 4],yB 5 4789563261161628 c107_1⟩
def c108:AFn:=⟨1,4,[.tmp 2],yI 4 0x3e74bc8c76a4aa590df662612c (.nilfn) (.mkClo 169 [(.t 1)])⟩
def c109_0 :=yA 9 0x10c959813265cfeb861d253d68f7535cd2f3fc
def c109:AFn:=⟨1,9,[.tmp 2],yB 3 532422217884 c109_0⟩
def c110_0 :=yM 5 0x3b772757ef97fda604c812c1abd60109c .mkMap (.build [.ptr none,.nils,.map none,.int .u64 0] [(0,1,(.t 1)),(2,1,(.t 2))])
def c110:AFn:=⟨0,5,[.tmp 0],(c110_0)⟩
def c111_2 :=(uF (fun a b c d=>jA 37 0xb7d73d9d2045692b22c1ad7517c12fba07fc273839ec6eb238cfb6907f2b8a5471dcca0eb4f556fecfec2e7748da551ae204b8331b3a1c24e2189054dba7a4110dbcfdf8c9927675b063caecb96db2d1e79795a2028af556cef6e50e6e4de464dbb2918cf98fe16be7589069350426a6b40c33777e4f00496d12c 2 2 0 [a,b] [c,d] []) _) (.int .u64 18446744073709551615) (.i 90) (.mkClo 172 [(.t 3)]) (.build [.int .u64 0,.nils] [(0,1,(.t 30))])
def c111:AFn:=⟨2,37,[.tmp 4],(c111_2)⟩
def c112_0 :=yE 8 0x97181ddc3792c1c6d402df21ad7dabcd2f480c68f073dd106732334e10 (.eq .slice false (.t 3) (.c (.nils)))
def c112:AFn:=⟨1,8,[.tmp 2],yB 3 532661096604 c112_0⟩
def c113:AFn:=⟨0,3,[.tmp 0],yM 3 0x119018f8aadaabbcd2d109c (.build (List.replicate 32 (.bool false:V)++List.replicate 32 (.i 0:V)) []) (.box 64 (.t 1))⟩
def c114_3 :=yE 29 0xef1ec0078a20619b2598fa1f15c8526fe03334692deb464d358121ae4961e2eb3b03d8fefb433da80c57d86f790d91e4f1c65b3421386b5e512dd9a57bb1b0897c56a16f1bebf2faab5a4d5a43a3320ab5c0f11af7ef73eb8690a7cfae0a8e4a8f460d4225a2a2e262a204dc0789794563411bc (.build [.i 0,.i 0,.ptr none,.bool false,.bool false,.int .u64 0,.int .u64 0,.i 0,.i 0,.ptr none,.bool false,.bool false,.int .u64 0,.int .u64 0,.bool false,.i 0,.nils] [])
def c114:AFn:=⟨1,29,[.tmp 2],yB 3 533019414684 c114_3⟩
def c115_2 :=yA 19 0xca5e25c2f9ff8df21630575d7ef1ce863ebb78056f783e2f0ca811ba9fa57f4f815166d318234a2b91b0fff431bc
def c115_3 :=yA 32 0x1f16603551b03ab35cf78e617cdba3124285d66b5a10cac49f30e97ae0c090ab8c8ea0b591c4779d65c2c6ce7b43807586182fc82c29f498aecc05a90507d9665b105cb148c
def c115:AFn:=⟨4,32,[.tmp 8,.tmp 9],yC 10 0x20ed4a2354600f42c31bf912c c115_2 c115_3⟩
def c116_3 :=yA 24 0xf5e9fe28295e0fc1b13a4d757881530453660291bfc1fc1d92df3001f9af40d6f26d0149c2390a822cc4c25fae99b61efe6691899776433aece3c9847abf78fad356ece7a8fda26f5b3a26cfc530f993b42ff69173811f30ae2c355b495abfdb9d31238d09c
def c116:AFn:=⟨1,24,[.tmp 2],(c116_3)⟩
def c117_1 :=yE 29 0xcbd007afe866d25979685191987ec297f6a4a30c3529ab3b4206263e6ef43b34364a1072cff07c03b8a48734d33b188fb3e81644b3d3b63a4f1501fcc0c9e97ee800d1725106234779d76bd6a8fcf60c0450241ec627e191bc (.build [.bool false,.i 0,.i 0] [])
def c117_2 :=yA 48 0x65bef6d184778fae1fe07114497a031a70cd173815e1e82de383a9c4e389715e717bcc61ff9bb6cc2daaed8717624c4d390db07c4b4be6056ef94de91bfb050d3263c6c
def c117:AFn:=⟨2,48,[.cellN 4 3,.tmp 5,.tmp 6],yC 7 0x8e302c0e1b468cb7e4ea210694c391bc c117_1 c117_2⟩
def c118:AFn:=⟨1,4,[.tmp 2],yI 4 0x3e74bc8c76a4aa590df662612c (.nilfn) (.mkClo 177 [(.t 1)])⟩
def c119_1 :=yA 50 0x29f13506f16ddba1a270a87af46beea32b91fd677e57ff051ac798729a23fd11b8045a00bbb7b8be1d71c7bddf2abc5e1e88b2edb1f327e7124dc0bc11582402ae6184bd367bdeb2c1ccffa7ec8e68d37e94f3e08265fd4841a1619485982fb9893ca5e64ab5b9147f29e37ecd14742f55bc04e10
def c119_3 :=yH 17 0x2edb1d095e7a66c305207733495711ff53012ce4a141d282b4aff143bf54fa606db29bd089fb4379f6a6e08f9bdb3a7a4f0efbb745d24b80b156cf615f043c6112c (.i (-1)) c119_1
def c119:AFn:=⟨2,50,[.tmp 4,.tmp 5],(c119_3)⟩
def c120_1 :=yA 25 0x3814e9431792cd33269798def094517bb3b88dae78cd21bb36429d0e44a04720d9c1a130d1ecd9db5ecad73b878c0ce922ed9781d56713d1a9195ac
def c120:AFn:=⟨3,25,[.tmp 6],yB 7 0x17d6b92b404d09c c120_1⟩
def c121_0 :=yA 24 0x730400d49687b0d9712c8b5bb5c3a480182c76b5bb2923a5572bbbc4936e1e488b07a0cd755995f849ec5c23fb7783550409333b4c
def c121:AFn:=⟨2,24,[.tmp 4],yB 5 4789558881718428 c121_0⟩
def c122_3 :=yM 50 0x5b663470d2e81cd0ac2410f4fe61c2d2727d3f7e560ff7b20c7ad6767141559b0d93c8f1ee35e6607c7ff59351205d5f91507169d9f3746cd37d1ed94fac0d923a1580cdcf87c72afce7e45e818c4d26edf88e7bbdb6afe89e69dcfd86956e3b29e114e126086fc9c113737babe911972472ab6b952e708288f4a49500511b2dab519d6cc (.slice 1 (.t 33) (some (.t 34)) none none) (.slice 1 (.t 47) none (some (.t 48)) none)
def c122:AFn:=⟨4,50,[.tmp 8],yB 9 0x1ea6b1cfa180109c c122_3⟩
def c123_2 :=yE 78 0x99a8e8ec2653163c5c0ba2b60226be810943d121bacc021ddf4ff0d443d279f1913162dee89f6045e32d73ccd86d5c87677bac77f1f5d3403c7bc336d09c9af784b636f2d3296569d539809bd59bd7c9506608878059bb89c4e0cde986308fdf6fd559f9d8bb6e1182f546ef0649b13e42e2f1e6846d57e92c6f01d1f3db30c37e14be9d9296c64ec67cdb4bb987c (.slice 1 (.t 62) none (some (.t 63)) none)
def c123_4 :=yB 40 0x25d276d364506ab4d0b437dda66171ccc9b0fa36b48714686b590332962213c33669db10b36986c6138d37fb6242e076c0895d617c5035ef305846ec221c40e60ec587717c51ca4f7e36ba87e048c431c5f13c99ceacb1c248910a1cfc c123_2
def c123:AFn:=⟨4,78,[.tmp 8],yB 9 0x1ea6b1cf4c12109c c123_4⟩
def c124_1 :=yA 22 0x3cc9a179697ae6b4073474e2610a7808045ee48e0e3d46aef459af65feeda887bd0d6c67acebc77e92e528cbee0ba39d998616d60975f5aeb4308be9148c
def c124:AFn:=⟨2,22,[],(c124_1)⟩
def c125_1 :=yA 33 0xc9f2fb3c3ed4d81e07d69dd41cc8d4a5051784f40858d24815ec2d71da30baf543cbffab761b38eecbaa729d33ebb7b428a2d5a1e9452c30d7dc538acfad44cfc33bb62595f9f344036595e1d2cee75937bdde756cc
def c125:AFn:=⟨3,33,[],(c125_1)⟩
def c126_1 :=yA 22 0x4a978e14774a27f8aa1ef2c3cdf1f5131094cdd8c2c83d0c8905c440273183d816aeb08e18ea29e098b5176b28e185221de565a396916cc
def c126:AFn:=⟨2,22,[],(c126_1)⟩
def c127_1 :=yA 33 0xf7cf6a10e3910f61b48050cf3230073ceb326b01de865114530e9aad865784632268ff41489d82eee9d2320f38d2afa2b36ff5ac9986b1df56ed5f84dba587f6483e09933633ee396044e1c1d599c
def c127:AFn:=⟨3,33,[],(c127_1)⟩
def c128_3 :=yG 44 0x7eb3c8dbcc362e0307bbea01f55e20c69dab413b3f2a1c3d005b3174dff7f6c9ad5f069804c70e4477d942c009a6a4827ff9a768ebc79d797cda4c048528d4e2c7dd6a07554d316ac3c32c08d42ed68b09ccd9aa617c6bc89f4e6cdc56f389b8b2546627d0305f0caaf3ed23359f1346f17f3055a61523330f3317477752c36c26312829bfd50031d689dfaa70eff48c (.i 114)
def c128:AFn:=⟨3,44,[.tmp 6,.tmp 7],yB 8 0x1da1d5b8829afa5512c c128_3⟩
def c129_2 :=yG 49 0x661b6e16d6bd4bcffda44a5590907451f08c69e2695492951499d05d859cfa2ec859241ec1662378730a630d1b668e93e76337b5f2d54eea69fca79664bbe998130cd2236b81caa8c676f5ee25dd6d27efac044523805f111b00adaff3d5d3006c09eb57bb4b8d60d657366aad813967621094339dc23b01b2aba23f690 (.i 114)
def c129_3 :=yB 14 0x3be2c983505493429002fb228195b27e7324064f94eba608abffdbf488d0d9bb24c c129_2
def c129:AFn:=⟨3,49,[.tmp 6,.tmp 7],yB 8 0x1da1d5b8829afa5512c c129_3⟩
def c130_3 :=yA 31 0x163582b14af67cc42bcc15ca78ce4a5124cb0ea68006b09492227730760f688429d7208d40abda8412082ff3391364a82fd119935b953cdbdefae76de470ff9209cad25fe500a6d495940a6e183e9aa0fe02409c88d9a0dfcc914d7bc8d57b09ca21e5040bcbada76b67a8ff48c
def c130:AFn:=⟨3,31,[.tmp 6,.tmp 7],yB 8 0x1da1d5b8829fb95512c c130_3⟩
def c131_3 :=yA 28 0x25196a1c50f648410c97cfc1ecd3fa1c1e8779aae6362a8f55a98f3cc325548d1b06e4984eefcfb30c7d237a63413bb13d89e067b144c8bb7552f44c2dfe30fc0fdfd80a2bd5ed6efe48cedc11282e492ae390793b3d2614478fb0aa7d6c77439c14cb402ce6afcb937450d7a92eff1512c
def c131:AFn:=⟨3,28,[.tmp 6,.tmp 7],(c131_3)⟩
def c132_1 :=yA 18 0xc76ebc96030c854094f365df2bd17e8e58d6cf59d8b63005b90e625ca2bbf9d8df113365cb2acd8ad6bc8852d11948c
def c132:AFn:=⟨2,18,[.tmp 4],yB 5 4789558483587228 c132_1⟩
def c133_0 :=yA 14 0x150879035757f0a936ea4fd31de45a8b536ab05c4970da7da2edcbd0e6dd2ac4e10
def c133:AFn:=⟨2,14,[.tmp 4],yB 9 0x10f49569965c9aefb8cf588e9f039c458d909c c133_0⟩
def c134_1 :=yA 18 0xc76ebc96030c854094f365dfc627ddc70debf47af9c93a843cee87675f41f9d8df113365cb2acd8ad6bc8852d11948c
def c134:AFn:=⟨2,18,[.tmp 4],yB 5 4789558483587228 c134_1⟩
def c135_0 :=yA 14 0x150879035757f0a936ead064bd0b32db65dc12b23970da7da2edcbd0e6dd2ac4e10
def c135:AFn:=⟨2,14,[.tmp 4],yB 9 0x10f49569965c9aefb8cf588e9f039c458d909c c135_0⟩
def c136_4 :=yA 41 0x37c9d29c042804c226315cb6033de6a49da356261b0f784d17217d31fe8f2f044c76c57e52ccc13c9edf8f092fa2d859a5a8590cf8c5a027ff118ea5bc901ec39fc1dca6870fc7b0fff7433347f5f70beae2b1ffaf3b8601fb1436b177d500f4ed8c265d20bb7cbf9b3cbd7fa86746663aaaf0a4442cbedde9ac2ce4e5c34e1a6bd69a2ce8bae93c9f165d2da3bb48c
def c136:AFn:=⟨2,41,[.tmp 4],yB 5 4789558483587228 c136_4⟩
def c137_3 :=yA 45 0x1a5907895793d17c9ea91b1d8b1097fd5691b814b735b8f92985a091785424d2e027fa36b5615aa5b08898fda1db9594c4cc34a7ea7c95400ecd4d334a9263a31b06d4c12cf45a5b0b5728a48d21ac7ceebb7a45a29fc807d8b406de772c36e6ca5da3d0e257108aa37338a5b008536f8d0a0d8756dcdd2fcbaadad378bcb493cb0a2bd7fed3a550f690
def c137_4 :=yB 12 0x12b833cf438fa8307d6c197eaaec7de94881d96f41c83f6da2760cc7724c c137_3
def c137:AFn:=⟨2,45,[.tmp 4],yB 5 4789558483587228 c137_4⟩
def c138_3 :=yA 143 0xb7109f41aba867fdb1fd839c739fd257473ee64ae0a2e48f20957aa63db307adc3d851b58ee662fecef484ae1ec291c2fc3c5bcca6a72e9ae326da59a5f8e401e8b05bab00bf4d6307baed5c50f5d2945a68e8cadb025cb6d04ba9a6f64a4495b35c1798001da35f469223e6e0b3f9e28164bd4f3c0d52cc39d6bc34f38fe938b9eea66daa34fb17b2894fae9dfe8b0c55580d85da9bc9c8a8
def c138_8 :=yG 87 0x20b32d8a7da757ad42ff828bafd5d3a06052d37f638da859b91e170fe0b9dcae01739d3455b4ad4f485df862cdbc92773c1fbcac360a6a50558b0eaee39b2c0e3783ca1128790094e74cfb349d838859631f1b118959701db2840b9da0bed63c947b227167e2b6eb2350dd777e3a0fda66830a9dd24c (.i 1000)
def c138_9 :=yB 53 0x5594d1cd5fc4cd6cc0a4383126ad82673125e15598b1a6213517f87fc07c618299e897142350e76ebad5019a5a2af393cd794d84e0f505927d800ab836c5c63bc968722659e322f915cf63cfda1e436f03f2af29a3c218f3d20a4751e2416e6aadf43845ec0a302c668c c138_8
def c138_10 :=yC 101 0x10cc6eb6440544c114c5906a51db57f31dcb2782307926ea78dfafaea80f882989d816fd66859e49a888599535948bc111b0807e0e2800f3cfbd07ff89fbb0de570edf97a395e5a736c1fb3fbfce030 c138_9 c138_3
def c138:AFn:=⟨3,143,[.tmp 6,.tmp 7],yB 8 0x1da1d5b8829afa5512c c138_10⟩
def c139_2 :=yA 149 0xd0550cef6cda82c63c21a226200e406a75c3f46cb5f82f204f8ee95314e0b339200ff7765ae9ed4d2dae7bf5bbc5401bbc58d2d49b8aac5200ef376f1eacb01862722461143777854545e50acfa3dcce81830c9e1e1bfff9e75708e969633eebf50f0df5120ae28d9186771c03eb07b103d43d4e525d590c
def c139_7 :=yB 118 0x202f2144c9758268a297024edf94d2227a3a271a0067097564debdb13d808f790a79ff1a03b97fa7fde14a28bc768517d85cb7f9de359afb2aa19bc71da33f5d7d38ebdff87fed5b2a0b39c6776e57348dae0eec2eb2c85d698bba148927a99d86ae4add3ab5cfbe43a924c c139_2
def c139_9 :=yJ 90 0x8f6baa51c74efb8eeddc4b984e945ba8e236966c9cdd9a03be42613b8f4ef5f9f51f484d749746506e008929043277b65592a5d8cb61febb92935a7004e9b76f65fbdf1f2ee67edaee3ecbc68b85882308c4bfdc4342737d852ec2c79eec683260f1e03588a79fb2a864c48408c6b2a64f26ac4150ae51608da7606fe910 (.i 1000) (.build [.i 0,.i 0,.bool false,.bool false,.nils,.bool false,.int .u64 0,.int .u64 0,.i 0,.i 0,.bool false,.bool false,.nils,.bool false,.int .u64 0,.int .u64 0,.i 0,.bool false,.i 0,.nils] [(16,1,(.t 76))]) c139_7
def c139_11 :=yB 70 0x7075b7ca75dd37f315ac77894c7a13784e979ffe4b3bbea81e141f3b0337db0ca1d2aabc87d4a7ef209aa588d61ffc7c14fba12068eef2bb6af6c251fe66417e477ada03841a69dd8b12ff30bc12067971786f122147e910 c139_9
def c139_12 :=yB 46 0x180e8aa3437e550472b630ea14f7d72be3e42941969ef976c7dfb6fe56dadeeeddce08b96948c4f63ed1824f05ad3169bcfa2ebc8739366196cf1b2083826e1c78a1f403f975b6d25fc79c810d1d3f6f1648687742c734fcc06016ca17bf106a102cd0 c139_11
def c139:AFn:=⟨3,149,[.tmp 6,.tmp 7],yB 8 0x1da1d5b8829afa5512c c139_12⟩
def c140_1 :=yG 23 0xbf8408d8a3771b4c163ae9d619c34ac05ae812c59ed38113cbf55a82ccd2df061854b049753c2a3ad406c5248a647ffd5aa576324324bd4efd0 (.int .u64 18446744073709551615)
def c140:AFn:=⟨2,23,[],(c140_1)⟩
def c141_3 :=yA 30 0x17fdf45de587b1e9385039dd54fcd3d250d411e930dc380d55d8f3854283b86b016c50d05efa1fee8ef29c36b5ec1640759d2fc7d133ed15ad77d5e270d69599c771240f59d0019e08e2bcf39c1cbf8d9d3ce35d3ca1feb3f7028ea32bbc738bc567d2ca96910
def c141:AFn:=⟨3,30,[.tmp 6],yB 7 0x17d6b927192d09c c141_3⟩
def c142_2 :=yA 31 0x4ff85a33272f68672040f1901c6ba69c94ee6492c5d1e26776a5370cb6cd76db00ae794d9d4edb654c03e7cce2f114738986f9d6fc3fe5bc1b660d903c9474d5cb0520d42030e2b4fb59a84e0efb21bbd430afdc52e05084a1b1204602acc5e31648f9186fe6910
def c142:AFn:=⟨2,31,[.tmp 4],yB 5 4789558483587228 c142_2⟩
def c143_3 :=yE 35 0x527de42d6fc4bb8f7de6491cbef824d269404b17cb8793e958971d1ba4a051decaa95de06f5ba8b74585e3fe785ce882a5f9a1ba0790ff69da41a390a5477976c8b8c8650f7c1c20faa28a6f4af6ec36c90747494e2e4e6781dc53e556cea2bcca2e862defd9eff2e615fc8eab8346173c9ffa69678733f0a9e04d1f6a4c750 (.build [.i 0,.i 0] [(0,1,(.t 17)),(1,1,(.t 23))])
def c143:AFn:=⟨1,35,[.tmp 2],yB 4 0x478b5ad0581f49ad09c c143_3⟩
def c144_1 :=yM 66 0x2bb1f2b446c920b440821320249aa7a68e7159e76f142dc28a3480025c92687654e6f97804881350526dffd50239b54508a999e4cfb01503dd951033b2420c832b0b504fc82730ff16b36a8bb76e3b8b77c6fa79c5781f13473893b31fe130fac6a42540eb98dc73e17efb89b4fbd91bc (.eq .ptr false (.t 54) (.c (.ptr none))) (.eq .ptr false (.t 63) (.c (.ptr none)))
def c144_5 :=yB 72 0x5282c6330ee8b264e0e35533ed47b0d4d2a4a332bbdecbbcbe31e66f11388b305d70fadec2585c5680d1e46325399e162ac1dee8eeb6063111f33bc9415ad63ba46ad5af65e85a331f70a272a674d8cd2669779cdb1286ba0c08a5de6710ed1f569e4edf987e8f038d92613cfabb5cd256544151ba0478e4c186946c3a98b8e563c c144_1
def c144:AFn:=⟨3,72,[.tmp 6],yB 7 0x17d6b927192d09c c144_5⟩
def c145_0 :=yA 73 0x11219648040b69713ebbf3f0c2860ee926dc4c00dd3e4a59ceded79ef2dc
def c145_1 :=yB 67 0x63a0ae74f51bc7d7deda58e1e40451d4b5da6c78d71c3f4de9c920ad6058b635ccd769661be7e0b1bb08334c9e3c0ae604d204762cde3ee2173862ab3261adb390a894d24bc2f9efaf58f6381e3ca646232e5d917eeaabfd5f080878447df39d0a8b2eb3feeb1421785858172545317e3c72610 c145_0
def c145_4 :=yB 29 0xee4406f83edb75138cfee8972b72a10311856100057cf6672bc9584c1b10ef07d7a4701c3ccf01260c6018bfd5da911835ada06dd7ad552f1d7b81f413ce1c6c03deea6ab03ff4b513da148c c145_1
def c145:AFn:=⟨3,73,[.tmp 6],yB 7 0x17d6b927192d09c c145_4⟩
def c146_0 :=yA 19 0x28889a551ac283ad5b751d1700d8545e9e6e0d799794ddcaccde6e67d9b4d3a4c003eedcefe9d071955bdc766df05d63c
def c146:AFn:=⟨2,19,[.tmp 4,.tmp 5],yB 6 0x163572952108f7112c c146_0⟩
def c147_1 :=yA 17 0xa8d700da95db179e73396cf9e1d0640634ecb359e81abcc3ead4b5d57933d1f2f6d30b3a4bc7e1b381337707133bb48c
def c147:AFn:=⟨2,17,[.tmp 4,.tmp 5],yB 6 0x163572952108f7112c c147_1⟩
def c148_3 :=yE 65 0x30e3cf4e01704c9a6a2770efe68abc1329bacfc35c6c9f042d1efbe1d53a126ff5e31c1d909e54a4b022a8d7b6d26b6f92a96994124b51d8e9921582553f3abeda63261091b091a157fefe649fcfbc3d95332e91972eca049165c2dd910640263016ced7148c (.mdel (.leaf (.int .i64)) (.t 60) (.t 61))
def c148_5 :=yF 36 0x1428e12695f7cf23c98ca884b77b7cb663167d3761b39ac869c27fba159b167ed4979e267e7098478f14c4e768cbad3ee9277048fe28b680205090d636b5fb8b3a2b32d83d389a65ea8bf01dcd14862a01e0fd967c4ec6e67713ac8400ea62a62e5ccc6910 (.lookup (.leaf (.int .i64)) (.i 0) true (.t 19) (.t 20)) c148_3
def c148:AFn:=⟨2,65,[.tmp 4],yB 5 4789558881718428 c148_5⟩
def c149_0 :=yK 15 0x3279c557edcd06f595db767c844d2d6d2113dfb80c747acab22f612b3000b0547daf75c (.i 38) (.i 6)
def c149:AFn:=⟨1,15,[.tmp 2],yB 3 532422217884 c149_0⟩
def c150_2 :=yA 27 0x17da885166c8ffac6240bc5d8c35b9b1c396e1066c238a58ec2fb4a27bffdf59bde45d0889bba0b94a6f33ad6e82d52fe7f9ea6041fdd21ea49657e45a200694e39190fb4ed546b68c16f325e6f2fcb9574a61b2b1fc152db90
def c150:AFn:=⟨3,27,[.tmp 6],yB 7 0x17d6b927192d09c c150_2⟩
def c151_0 :=yM 12 0x28acf3629c132e18fa91427e983a6c4f35b1616f5ac (.eq .ptr false (.t 3) (.c (.ptr none))) (.eq .ptr false (.t 9) (.c (.ptr none)))
def c151:AFn:=⟨1,12,[.tmp 2],yB 3 532422217884 c151_0⟩
def c152_0 :=yG 12 0x18b51b7ed48c65fcce1c192303fc8e327afa30add6cbb4c04c32885c560c065b90 (.int .u64 18446744073709551615)
def c152:AFn:=⟨2,12,[.tmp 4],yB 5 4789563261161628 c152_0⟩
def c153_2 :=yE 41 0x296b9e2c1e7edfe016e8f5b0cb3b821be64b74cb7c0e8b6e6d2c3f54ac29a7bdf43a7fbb6c8e5667af97f8ac02927b828a168a26cc82f166b6bbb0972b87634fb41f365e6c91e4a7c0bab87c9ebf07825f53228dc9ba97af5249c2daf861a6e7cecf83d58d4996d26f87298a612d33fc (.build [.i 0,.int .u64 0,.int .u64 0] [(0,1,(.t 30)),(1,1,(.t 34)),(2,1,(.t 38))])
def c153:AFn:=⟨2,41,[],(c153_2)⟩
def c154_3 :=yI 38 0x6c0c87991d32f17184b72c314fb8e85c93991c31c380d6d72e95c1e1282afc31004cb1edd0700a6794b08db1020c253cbf1e7add05feaa09aea33a3e51668cfd274dd93009c2cbe40044db8bb9431117edde2a9419da44816c5ba4e3387375efb30e5393cc8345c845aa96e702deff9ae0b8ad9210f163d0478aa84d387f3a140f95f457312c (.i 30) (.lookup (.leaf (.int .i64)) (.i 0) true (.t 13) (.t 15))
def c154:AFn:=⟨2,38,[.tmp 4],(c154_3)⟩
def c155_0 :=yA 9 0x10c959813265b2d157f935baf252e6dfd2f3fc
def c155:AFn:=⟨1,9,[.tmp 2],yB 3 532422217884 c155_0⟩
def c156_3 :=yE 48 0x1c4e3b639941ec0bf06b47fdc8cbd70fdec9fdf4e3ee61fe6532e14f50135241f703921311c20220b62aae0d82c7d71fd81ffe7ad1e5c9633cccb641c20f3a5ab66b1ee3a66b1b2a39cff2d6c93e2dca33f23ca198875a0e3d6c8007aefd3804fe3f476c02df4f1c37137c5e4c54d0 (.convInt .u64 (.t 42))
def c156:AFn:=⟨2,48,[.tmp 4],yB 9 0x786d36ca26d3ab0311d7091ce5df039c9afb909c c156_3⟩
def c157_0 :=yE 12 0x7a06da27d437bfc5240a77f6c69429455d39616f5ac (.eq .ptr false (.t 3) (.c (.ptr none)))
def c157:AFn:=⟨1,12,[.tmp 2],yB 3 532422217884 c157_0⟩
def c158_3 :=(uF (fun a b c=>jA 58 0xe39be109433537092b3a7a39fde5cfd406d02cf4f7effa99ff568e399de947c6351696b76142686756c888d7fe6d20412cb7413a13b2cc6b928a80c60367efe29359254c025826f3c5ed19936d46a0c123f48bc71ba9cc05441598196082bd6b0a9d603c8b580fdd5b48740c4042852f6f09413fde0ffa96ea91587d21850 0 3 0 [] [a,b,c] []) _) (.copy 1 (.t 33) (.t 34)) (.slice 1 (.t 32) (some (.t 35)) none none) (.convInt .u64 (.t 51))
def c158_5 :=(uF (fun a b c=>jA 18 0x1d36e5883e6236364ac6dfc4d40f5ddb82cc7adf98f95a381751f3af917440b1eaf568ab3a03782e2d3cc2aec4e4e6bb748c 0 2 1 [] [a,b] [c]) _) (.minI [(.t 9),(.t 11)]) (.slice 1 (.t 7) none (some (.t 12)) none) c158_3
def c158:AFn:=⟨2,58,[.tmp 4],yB 5 4789558483587228 c158_5⟩
def c159_2 :=yM 20 0x1dd18fdd07632213b64d66d78c82e824ec891c7c3c6bc83317cf9b50408326f4db668c84976a4f404bc1178042d304fbd14302fc4788b3a8bc0a78a2a603940fa137cbab86925a6509c (.build [.i 0,.i 0] [(0,1,(.t 14)),(1,1,(.t 15))]) (.callv (.t 13) [(.t 16)])
def c159:AFn:=⟨2,20,[],yC 6 0x28408e462d438fd990403a (.label 0) c159_2⟩
def c160_1 :=yA 15 0x86f97b8dc13c8db86a1e6666b9e775c33896aae3778993f0b1188c604776689fbe90d0eaf6649e65b90
def c160:AFn:=⟨2,15,[.tmp 4],yB 5 4789558483587228 c160_1⟩
def c161_0 :=yI 8 0x1290ec49185ab4ce522a1666af3a2065a1531f24c (.nilfn) (.mkClo 190 [(.t 3),(.t 4),(.t 5)])
def c161:AFn:=⟨3,8,[.tmp 6],(c161_0)⟩
def c162_2 :=yI 19 0x9ee3fa1b608e88707de941dcd1ab47506f3fddb1a70479431a63d42c437d842dd60d1c72c9c81e2b8c1a5bc43ff36b88dc84649cd3316cbc4cd71eba7c4f5b65c59d36f2b65bbbfcd6707793d52909c (.i (-1)) (.callv (.t 11) [(.t 15)])
def c162:AFn:=⟨2,19,[.tmp 4],(c162_2)⟩
def c163_0 :=yA 8 0x53da7a87ae865ba3c7453b91c671d525ca6a9dfcfd12c
def c163:AFn:=⟨2,8,[.tmp 3],(c163_0)⟩
def c164_2 :=yI 20 0x13d7ac43fd6c49551452bb209eea71d43172c093764b0c3f84167ee66132614cb49108cfeca5c4a2e909d78ab3f2b267211b26a3458c155f6beb31d05e092810df2a37a35cef42de4ced1b8962c179031bc (.int .u64 18446744073709551615) (.callv (.t 14) [(.t 16)])
def c164:AFn:=⟨2,20,[],yC 2 81082 (.label 0) c164_2⟩
def c165:AFn:=⟨2,6,[.tmp 4],yI 6 0xe5fb396e23889bd7ad9a4fec438fe311bc (.nilfn) (.mkClo 191 [(.t 2),(.t 3)])⟩
def c166_0 :=yE 9 0x6671e38f4fe38de703c8ba830720df1b0d8a7fddb6d4512c (.mkClo 194 [(.t 3)])
def c166:AFn:=⟨2,9,[.tmp 4],(c166_0)⟩
def c167_0 :=yE 11 0x56c4ca59ef24335b97a2e6cfc6d04133fc (.mkClo 196 [(.t 3)])
def c167:AFn:=⟨2,11,[.tmp 4],yB 5 0x5bbfb66e8e704ad12c c167_0⟩
def c168_3 :=yM 30 0x1938212fbfd8f422079232fe07232fe01fc38215734054947ec8bc24763ddf139a95351ad39d2be503947095889634a3aef9da1c2d987af3f2ab29076266fec2ae73c4e0d9313c2ce62484e297d82bc61745f86381176a64e7f0cc0e43d7112ce10 (.build [.i 0,.int .u64 0,.int .u64 0] []) (.lookup (.leaf (.int .i64)) (.i 0) true (.t 15) (.t 16))
def c168:AFn:=⟨2,30,[.cellN 4 3,.tmp 5],yB 6 0x80e21394325e34c59d2112c c168_3⟩
def c169_1 :=yE 32 0x2f985afd143502616708ad7c3a04336a43c5b6eee806ecd234991693bc100632a5c9e2e5a235fda61196e503ca38ab69a838f7875f25ab625e956e535422fc1dba5d507e564f1d3a9d9681a630faa866b416eef709c (.callv (.t 19) [(.t 20),(.t 27)])
def c169:AFn:=⟨2,32,[],yB 7 0xd049c785d9f7c29573e6004e4d1bc c169_1⟩
def c170_0 :=yM 4 0x2b874f2bfc1949b41bb3266909c .mkMap (.build [.nils,.map none,.bool false] [(1,1,(.t 1)),(2,1,(.c (.bool true)))])
def c170:AFn:=⟨0,4,[.tmp 0],(c170_0)⟩
def c171_0 :=yA 9 0x38583d281518ef9e39abc89cfb5d9de85e147044909c
def c171:AFn:=⟨2,9,[.tmp 4],(c171_0)⟩
def c172_0 :=yA 10 0x3722a4fa5efdeb36a64161a92244d13fc
def c172:AFn:=⟨2,10,[.tmp 3],yB 4 0xd9cdcdc9cf09c c172_0⟩
def c173_1 :=yM 14 0x207774792315068591a3ed4f97e9883571624906241b4fff63c14c9beb540ba16187a0de8525a3cce910 (.mkSlice 1 1 [.int .u8 0] (.t 10) (.t 10)) (.build [.nils,.i 0,.i 0,.int .u64 0,.int .u64 0,.bool false] [(0,1,(.t 11)),(5,1,(.c (.bool true)))])
def c173:AFn:=⟨1,14,[.tmp 2,.tmp 3],yB 4 0xee3f9ac8fad12c c173_1⟩
def c174_0 :=yA 9 0x10c95981326613d3471ba96dd402e6dfd2f3fc
def c174:AFn:=⟨1,9,[.tmp 2],yB 3 532422217884 c174_0⟩
def c175_2 :=yH 32 0x461c4ec4b304f566ccc502f9940bb8e5f2acb32b18c5b61f02261f6b1c76cb6afb981076c3e3e36e479a4524be1894d9ff1966b7cceae159ec61790a4923f5a3acc7c2bb9ac2e9d7b43809d21fa8d57be88cd30b09cb63f43f886bc2ab763da7371d9fc75a (.i 1000) (.label 0)
def c175:AFn:=⟨2,32,[.tmp 4,.tmp 5],yB 6 0x8fb2b724723b958fed31bc c175_2⟩
def c176_3 :=yA 51 0x611869fbab388dbbf167e78da3d02706268ccd76c7efd09fce5e2061d70a485
def c176_4 :=yF 41 0x4254d1cb2f9f06cb06ececbbb2e1f765c3792fb85724334b9a22a46909b55e90517e1c23b42116a34dcedf911e4e54e6d90f377d1579c1be01f5895331cde0024767125491d7df1de347794685ff23a9471b357b5bea955ce56266895fb475a0245ede5e24a99532f94ec00adf0fbed55fb7ac466bd3a32aa644197042e1d829fd81f4d4d0 (.build [.bool false,.i 0,.i 0] [(0,1,(.c (.bool true))),(1,1,(.t 34)),(2,1,(.t 35))]) c176_3
def c176:AFn:=⟨3,51,[],(c176_4)⟩
def c177_2 :=yM 23 0x136ad150efb704da1d30f78de3c5ee86e8215b86015e7522fe91d4dc0b4d8fb1abc0338320df39de676190b6b53eea5625c1226b3741550eadbce9af88f64f8dc716f72613b2a5eaf00698c854877f5d4f2dc (.ixA 96 3 (some 3) (.t 8) (.t 9)) (.callv (.t 17) [(.t 18)])
def c177:AFn:=⟨2,23,[],(c177_2)⟩
def c178_2 :=yA 70 0x2eba7cf2e478bd320c627857f824b0b3e547ea3992a7e62e6b0126c9fba21612b63f4e51c642f658f97477f9b9f3a12104bb1a27f4ff7e1fda31d38fdd26331d44c42e572d4f5044029c3f799872152bdd57bccafa30ffba9bd1e6897ec
def c178_3 :=yB 40 0x1a036f5802b9f1f028a449ef2b032fc29b2dd704f1f8ae5f688b926f0cca9d44806516337f88e2d8f4299e6cd85f2a249ebb6df52eface555a1b65c0a0799cefa47f68db3f57dd22198e37578c4cab718b80fe8cb74e5786f8032819a61f10 c178_2
def c178:AFn:=⟨5,70,[],(c178_3)⟩
def c179_2 :=yA 43 0x1405424e7f5ae194421867bc62d3f59f9bbdf2b3742dc58da3f1ffee0d60df9133534946010c9d7aad8b0d2a76f0998b4449fd37944c612161ba2ccecb814a2f9eb99ccf6be2021f0e9e0c2229a7bbf5913f03c4a5697cc9762d2121f92c39c0a038b574f2aff40b998301b42718bd47db3b814296797fce030
def c179:AFn:=⟨2,43,[.tmp 4,.tmp 5],yB 6 0x16357295216ca2112c c179_2⟩
def c180_0 :=yA 29 0x56300b845d8eb822324c75321c4dc28db33b6f254860578a487908139135a58c1512c91ceeb7a4c8d90d6ef7fce084a8e8b866c11760a30abec79a93e1c
def c180:AFn:=⟨2,29,[.tmp 4],yB 5 4789558881718428 c180_0⟩
def c181_3 :=yG 73 0x319a2c8106f52ec6d74e0dccb92d30e923f02f901c9469a1706e4c965bbee3c89abb06221ad3b32ca2e058ae6cddb5b75ea07026742a8c4949f04ba0f438c37c573ed1e539c6ed8c5f4b17eddbeeafc46fe3dabc (.int .u8 1)
def c181_4 :=yB 42 0x71d7fbce47169f46c86e3ae545322cb94876ee49f96c858eef23d60eaf066394b46975b9e9838784bfc6b249e903f45b109662f801eede067529a37ca93021a46a92b00a1c6322f3b3402e468b6ff7ef5474ca7149d4b3291cafce0a7a5bb1bc c181_3
def c181:AFn:=⟨1,73,[],yB 9 0x3f056b5a4b1fafe25cc30367f8aa4e250 c181_4⟩
def c182_4 :=yM 66 0x1d5a252977f0f6792a3bc51c334c04984e4f3e2befb3bf254d175690919a83248e57f70bfce32325f058a8f72fa910e247190ffe7188246f1eadace528459743f8bf86ec394aef699bd89fbb6102fbf3bd59344376ed9f1c8194b403623d7bd3c010445185b9d082dc7ff1afa806cbc642faa78f0b65a6eca9fca031d70ffb2c274f906f7bc98951c (.slice 3 (.t 43) none (some (.t 44)) none) (.mdel (.leaf (.int .i64)) (.t 51) (.t 52))
def c182_7 :=yF 32 0x315b0816f1aa0b61b56920d2cefa282fd68836e63df8874af3075fe3550eabbd2ec6d87f5282b2e1751be278eeb4b7a4518cd04c0735e410da3092cc41971c4dae7794d67f56f7d40fb50781c193510128c7319bea4c7a151c (.lookup (.leaf (.int .i64)) (.i 0) false (.t 23) (.t 24)) c182_4
def c182:AFn:=⟨2,66,[.cellN 4 3,.tmp 5],yB 6 0x80e21394325e34c59d2112c c182_7⟩
def c183_3 :=(uF (fun a b c d e f g h=>jA 33 0x3f3e50432389f7926e3be33389b8d9c4079f123655bf22e2488f8a912e9fb740c6b4add97320375d1d988879e2d08f5b59649fa0347ed9eba29153ab6f03975f587c630213b84e22d3f933b5fb614ef0398055e1df36c 0 8 0 [] [a,b,c,d,e,f,g,h] []) _) (.recap true (.t 0)) (.slice 3 (.t 8) (some (.t 9)) (some (.t 10)) (some (.t 12))) (.recap false (.t 17)) (.slice 3 (.t 20) none (some (.t 21)) none) (.slice 3 (.t 23) (some (.t 24)) none none) (.slice 3 (.t 27) (some (.t 29)) (some (.t 30)) none) (.clear [.i 0,.int .u64 0,.int .u64 0] (.t 31)) (.recap false (.t 32))
def c183:AFn:=⟨3,33,[.tmp 6],yF 7 0x3da4c7d7b709c (.recap false (.c (.nils))) c183_3⟩
def c184:AFn:=⟨1,5,[.tmp 2],yG 5 0xb0e6b2ad1b4f4040467ad9aee509c (.i (-1))⟩
def c185_0 :=yE 12 0x7a06da27d437bfc5240a0879de457dcd1d39616f5ac (.eq .ptr false (.t 3) (.c (.ptr none)))
def c185:AFn:=⟨1,12,[.tmp 2],yB 3 532422217884 c185_0⟩
def c186_4 :=yB 45 0x1f9c2a9b18a6aae6eccffbba1f230d8d198b178b7ab1b06152136343fa4fafc7c6b0f084c688a04c4ec863212d7eca369e364b0b7f3d20dbacf1481b64463ab42e5d841663f4cdb76c09734548feed53ec046b2c873ac0e01b016f3a5bd3d0b07683b942dc0611bc0d503a0d8f5d9e407edc0f44ffb4989a5d271fd3937c0e9586b7ecaec42cfeabf07c2602cb8a3165f0de6f7ed3a2f17d5a (.label 0)
def c186:AFn:=⟨2,45,[.tmp 4],yB 5 4789558483587228 c186_4⟩
def c187_2 :=yE 25 0x1c596d4d17ec5dd80b2427045ef802d27d324e96db956b58eb464e5efcc75b3e30a91ae8ad7599d4ef00b61079a9fb7b40f1e1d4fb4ebeaf16924a7a938c8b83cbe0accbf637fa41ba1b16250 (.minI [(.t 7),(.t 9)])
def c187:AFn:=⟨2,25,[.tmp 4],yB 6 0xd6f0a7a432590d786760109c c187_2⟩
def c188_0 :=yA 15 0x7e25e1593efd4e32ccd096d4f4c80aaaa28aadb3669363c
def c188:AFn:=⟨1,15,[.tmp 2],yB 5 0x3eb06c7e4af3f7725e51625fc7276c54d386509c c188_0⟩
def c189_0 :=yI 8 0x1290ec49185ab4ce522a1666af3a2065a1531f24c (.nilfn) (.mkClo 202 [(.t 5),(.t 4),(.t 3)])
def c189:AFn:=⟨3,8,[.tmp 6],(c189_0)⟩
def c190_3 :=(uF (fun a b c d e=>jA 35 0x5896f4a9d7568279f98232dcb385d0dc8bc5d9db61ff460934dd88ce7c57746664965e34045babfe89d527e7e59e887a506c4866365538a6f7d5e8c3eec88e1b2ee45f58691bcc78578989f8b7e8df8ecdb7f8a74b0fde0744773a5e8f713e07e4b341613ed47f09e844a0d40fb0f852dc 1 4 0 [a] [b,c,d,e] []) _) (.i 6) (.lookup (.leaf (.int .i64)) (.agg [.i 0,.i 0]) false (.t 19) (.t 20)) (.field 1 none (.t 21)) (.build [.i 0,.i 0] [(0,1,(.t 29)),(1,1,(.t 30))]) (.callv (.t 28) [(.t 31)])
def c190:AFn:=⟨4,35,[],yC 2 81082 (.label 0) c190_3⟩
def c191_2 :=yE 27 0xd1384a16eaa20d639cce2a9528700bd37e365e38858054ca02e9024724c978e65516e7ee23ca6416eafff0876d99d1ce639ab02a250a18c58d792feda283a84454d84b6e1a711cdfe04d77498d99d1a5f8bc8348c (.callv (.t 23) [(.t 24)])
def c191:AFn:=⟨3,27,[],yC 3 0x20c35411b2f13c3a (.label 0) c191_2⟩
def c192_3 :=yE 39 0x2711d58091bf64cf40e01e6c4089bf77b92a5aab035236f632aa990db9266f588c71920ec5b55436355f64f13b7c23ac9fc7c67e3f2b6c7cb46c652d855e3191b467b7d09d56f9a015d46d0cd5ea8be8b92fd04a486f0234b6e2921c9e1dcff9774744200e3d31d3e7c2fcac96aafaeb589d9a002d6201806893bb3005d37d85ea4e2bfce10 (.build [.i 0,.int .u64 0,.int .u64 0] [])
def c192:AFn:=⟨1,39,[.cellN 2 3,.tmp 3],yB 4 0x54eba62f7879623bdad12c c192_3⟩
def c193_4 :=(uF (fun a b c d e=>jA 42 0x11ef470717953ca343c313ecded71bd7c40316a54f85631c418edaea15c19f59ef02c577f912d19487c642492278430fe4f5954d18cc349298ecfaa9f5e396f270c7814189110ce2491c78031346382442edb6f7a70a6dd6f331a028582525a0417438638aa91e71910aac071f61cfce0facf84ef6a49df2fda3cf32a3d334c7952ead08f5d447b3f4e10 1 4 0 [a] [b,c,d,e] []) _) (.i (-1)) (.callv (.t 26) [(.t 27)]) (.slice 1 (.t 36) (some (.t 37)) none none) (.clear [.i 0] (.t 38)) (.slice 1 (.t 39) none (some (.t 40)) none)
def c193:AFn:=⟨2,42,[.tmp 4],yB 11 0x44642376eca9871581a4e73d16246a12b8909c c193_4⟩
def c194:AFn:=⟨2,7,[.tmp 3],yA 7 0x1355119e6f115b153fafabc09acf01fb709c⟩
def c195_2 :=yI 19 0x9ee3fa1b608e88707de941dcd1ab47506f3fddb1a70479431a63d42c437d842dd60d1c72c9c81e2b8c1a5bc43ff36b88dc84649cd3316cbc4cd71eba7c4f5b65c59d36f2b65bbbfcd6707793d52909c (.i (-1)) (.callv (.t 11) [(.t 15)])
def c195:AFn:=⟨2,19,[.tmp 4],(c195_2)⟩
def c196_0 :=yA 8 0x53da7a87ae865ba3c7453b91c671d525ca6a9dfcfd12c
def c196:AFn:=⟨2,8,[.tmp 3],(c196_0)⟩
def c197_2 :=yI 19 0x27b8fe86d823a21c1f7a5077346ad1d41bcff76c69c11e50c698f50cef1ace0ed621dab6bb6be5b0641e11f7debb919809b5a603316cbc4cd71eba7c4f5b65c59d36f2b65bbbfcd6707793d52909c (.i (-1)) (.callv (.t 11) [(.t 15)])
def c197:AFn:=⟨2,19,[.tmp 4],(c197_2)⟩
def c198_2 :=yA 18 0xfc007e65626864a21402d84ffcb7d8f33783b0320bb93f540d7ee6de08179d20d89e6e3afa24f71fc9d4745346dd6a48d934e5b0490d18384e5376bab406e6b78b7a6273d09c
def c198:AFn:=⟨1,18,[.tmp 2],(c198_2)⟩
def c199_1 :=yE 20 0xace9a08bdb53c50a1c327b8dc3d515bc7ff3534bd9aa392f4a3aaf965bae2217c088f61244885548c (.mput (.leaf (.int .i64)) (.t 16) (.t 18) (.t 19))
def c199:AFn:=⟨3,20,[],yB 6 0x7ae38470bdf709c c199_1⟩
def c200_1 :=yA 75 0x52afef3a8d278bea781d37563543d7d59cbfa94a2f6dae470de360360eb44c4fb896fbf0e137525ae6f8b57a23a07ae76e1c9af0e88dab871fec901cfb0f3dbc58ced7a4d1400f38410
def c200_2 :=yB 54 0x21afddc6edef83c460828d194f8b10c291dfd4bcef5d0c7cd98c07309f82153ce94bc8d3cb5bbfc769407d536907d3d90677c6297a26d12d5eece258c9cc71c8d27d58f481d2159f3a2ad8a48fc36300ae4f6d0 c200_1
def c200_4 :=yC 79 0xbc9b844d4c644454cc95827e124fbb955de19353a3a2742e6d31503549a1c4393eac9e446627f7b397285cbeff7f8e1a661642783efe1716650076043d5659005aa7f3d31230bcfecb882dd42e7766ca862ff3a57f6fb7cb67fd5a (.label 0) c200_2
def c200:AFn:=⟨2,79,[],(c200_4)⟩
def c201_0 :=yA 22 0x8303b4671a189a90c3286b118ef3e9d33455faae698e52ed343689059b16daa8a7c9c53e4688fae04510d3e8b3ac02bd10f229347b524c86518d8f93b641ef7906b7a08bf5da425cb8c8998b40b5708b3c7d1a8
def c201:AFn:=⟨2,22,[.tmp 4],yB 5 0x5ec5c974dd7aa61329b1bc c201_0⟩
def c202_2 :=(uF (fun a b c=>jA 43 0xa5264c53cef9c9afb351e5bc07fc588be4bbe0a9fddde840513f80d21ac25b41bc07848b17a9b9b0a2e3282133af682bc76a966f72600cc88ed78ada167bb1e523b97622a6a35af3a2ee10c958d255d9af2bbd24629659178086c8c4b0460228d004da1fbac66f48c 0 3 0 [] [a,b,c] []) _) (.minI [(.t 23),(.t 28)]) (.slice 1 (.t 19) (some (.t 20)) (some (.t 29)) none) (.callv (.t 31) [(.t 32)])
def c202:AFn:=⟨4,43,[],yC 9 0xab6e8906737b7b170117b38654191c2213c3a (.label 0) c202_2⟩
def c203_1 :=yE 21 0x50101ad98d75522c5482709f5c3f9692c7b44d2735135ddca89a1a3bcd380c8647c0e910324f8f2542b2930a471fba7004683eb5c0cfb65cba634cd0410 (.build [.i 0,.int .u64 0,.int .u64 0] [])
def c203:AFn:=⟨1,21,[.cellN 2 3,.tmp 3],yB 4 0x54eba62f7879623bdad12c c203_1⟩
def c204_2 :=yI 19 0x27b8fe86d823a21c1f7a5077346ad1d41bcff76c69c11e50c698f50cef1ace0ed621dab6bb6be5b0641e11f7debb919809b5a603316cbc4cd71eba7c4f5b65c59d36f2b65bbbfcd6707793d52909c (.i (-1)) (.callv (.t 11) [(.t 15)])
def c204:AFn:=⟨2,19,[.tmp 4],(c204_2)⟩
def c205_2 :=yA 18 0xffead62c3a4cbbd748d95a56b7ce99f7c40d4123aac46c70e42a1170012dd2da8428053936121bb6df3a7c05512ba2d38ebef3a4f6b22a98425d605cb641ffc77efcf2f95f75499677a4ae7f09c
def c205:AFn:=⟨1,18,[.tmp 2],yB 3 532183339164 c205_2⟩
def c206_3 :=yG 20 0x41336f0f23d67f5d6f2aa74203069ae22415a74de138f88bb28c563e0de10cf4eac25d2359f50f05eb7f5d81798d4568b5fa778a56c229f387820a496f90aede456e69db8b3412614c6a888f06a6fddaec6106d66014564671df4a57baf589241017dba425898b0771bc (.i (-1))
def c206:AFn:=⟨2,20,[.tmp 4],yB 5 4789558483587228 c206_3⟩
def c207_3 :=yG 20 0x41336f0f23d67f5d6f2aa74203069ae22415a74de138f88bb28c563e0de10cf4eac25d2359f50f05eb7f5d81798d4568b5fa778a56c229f387820a496f90aede456e69db8b3412614c6a888f06a6fddaec6106d660145646720a4d7ec981f5f41017dba4260f06e771bc (.i (-1))
def c207:AFn:=⟨2,20,[.tmp 4],yB 5 4789558483587228 c207_3⟩
def c208:AFn:=⟨1,6,[.tmp 2],yA 6 0xd306e95d5ab77cbb4e732c3ede43d09c⟩
def c209:AFn:=⟨1,6,[.tmp 2],yA 6 0xd306e95d5ab77cbb4e732c3ede43d09c⟩
def c225_1 :=yA 15 0x48f2712cf244a65b27fe1f0c83a0d2acfdbd31f1b1daad7a390bcc2f327581b4d5d99efd33136c
def c225:AFn:=⟨2,15,[],(c225_1)⟩
def c226_2 :=yA 29 0xc60fb1932c99bf0dd51979a6b247b169ec2a01f0d44526128213d38851ac6b45946e86afc12f0dd27ffabc08ec0e903b35c2be8fe88f879eca638434b5831ecc5f085d5d002dd4d6fab81edef6b131d09c
def c226:AFn:=⟨3,29,[.tmp 6],(c226_2)⟩
def c227_2 :=yA 55 0x579c4ae1360b631bff6b97ea289676509b3097302f63cdaf78b3273f74236c5718c375c9ef77f9d75931e3f854c2a7679480af812fbc8b57671211c6aeb7263645963b20c8350127d3d4dce982175c094e223f949eae8ccf858edb8ad47211c8c7ce5d4569f2e91650ab8bf6a250c85a3c7a557ec
def c227_3 :=yH 21 0x18ffd9b13a172ec1c9f829887c39d5f11793dcd43f1b19cc88949895a77d03f30d898410 (.i 190) c227_2
def c227:AFn:=⟨3,55,[.tmp 6],yB 7 0x17d6b927192d09c c227_3⟩
def jba:Prog := { fns:=[(3,c3),(7,c7),(8,c8),(14,c14),(26,c26),(27,c27),(35,c35),(36,c36),(37,c37),(38,c38),(39,c39),(59,c59),(60,c60),(61,c61),(62,c62),(63,c63),(64,c64),(65,c65),(66,c66),(67,c67),(68,c68),(69,c69),(70,c70),(71,c71),(72,c72),(73,c73),(74,c74),(75,c75),(76,c76),(77,c77),(86,c86),(88,c88),(89,c89),(90,c90),(91,c91),(92,c92),(93,c93),(94,c94),(99,c99),(113,c113),(114,c114),(115,c115),(116,c116),(117,c117),(118,c118),(119,c119),(120,c120),(121,c121),(122,c122),(123,c123),(124,c124),(125,c125),(126,c126),(127,c127),(128,c128),(129,c129),(130,c130),(131,c131),(132,c132),(133,c133),(134,c134),(135,c135),(136,c136),(137,c137),(138,c138),(139,c139),(140,c140),(141,c141),(142,c142),(143,c143),(144,c144),(145,c145),(146,c146),(147,c147),(149,c149),(150,c150),(155,c155),(156,c156),(157,c157),(158,c158),(159,c159),(160,c160),(173,c173),(174,c174),(175,c175),(176,c176),(177,c177),(178,c178),(179,c179),(180,c180),(181,c181),(187,c187),(188,c188),(189,c189),(198,c198),(202,c202),(204,c204),(4,c4),(5,c5),(6,c6),(9,c9),(10,c10),(11,c11),(12,c12),(15,c15),(16,c16),(17,c17),(18,c18),(19,c19),(20,c20),(21,c21),(22,c22),(23,c23),(24,c24),(25,c25),(28,c28),(29,c29),(30,c30),(31,c31),(32,c32),(33,c33),(34,c34),(40,c40),(41,c41),(42,c42),(43,c43),(44,c44),(45,c45),(46,c46),(47,c47),(48,c48),(49,c49),(50,c50),(51,c51),(52,c52),(53,c53),(54,c54),(55,c55),(56,c56),(57,c57),(58,c58),(78,c78),(79,c79),(80,c80),(81,c81),(82,c82),(83,c83),(84,c84),(85,c85),(87,c87),(95,c95),(96,c96),(97,c97),(98,c98),(100,c100),(101,c101),(102,c102),(103,c103),(104,c104),(105,c105),(106,c106),(107,c107),(108,c108),(109,c109),(110,c110),(111,c111),(112,c112),(148,c148),(151,c151),(152,c152),(153,c153),(154,c154),(161,c161),(162,c162),(163,c163),(164,c164),(165,c165),(166,c166),(167,c167),(168,c168),(169,c169),(170,c170),(171,c171),(172,c172),(182,c182),(183,c183),(184,c184),(185,c185),(186,c186),(190,c190),(191,c191),(192,c192),(193,c193),(194,c194),(195,c195),(196,c196),(197,c197),(199,c199),(200,c200),(201,c201),(203,c203),(205,c205),(206,c206),(207,c207),(208,c208),(209,c209),(225,c225),(226,c226),(227,c227)],prims:=[] }
theorem jfj:jbv jba:=fun f p h=>by cases h
def prog:Prog := { fns:=jba.fns,prims:=(13,pAdd jba 100000 28 11 28 2) :: jba.prims }
theorem primsF:jbv prog:=jbv.cons (pAdd_F jfj) jfj rfl
def cx:Cx:=⟨[(3,⟨.int .i64,1,8,(some (.i 0)),false⟩),(4,⟨.bool,1,1,(some (.bool false)),false⟩),(5,⟨.int .u8,1,1,(some (.int .u8 0)),false⟩),(9,⟨.str,1,16,(some (.str [])),false⟩),(22,⟨.ptr 63,1,8,(some (.ptr none)),false⟩),(23,⟨.ptr 39,1,8,(some (.ptr none)),false⟩),(26,⟨.int .i64,1,8,(some (.i 0)),false⟩),(29,⟨.struct [(0,3),(1,3),(2,3),(3,3)],4,32,(some (.agg [.i 0,.i 0,.i 0,.i 0])),false⟩),(31,⟨.int .u64,1,8,(some (.int .u64 0)),false⟩),(32,⟨.ptr 86,1,8,(some (.ptr none)),false⟩),(33,⟨.ptr 123,1,8,(some (.ptr none)),false⟩),(35,⟨.struct [(0,32),(1,33)],2,16,(some (.agg [.ptr none,.ptr none])),false⟩),(36,⟨.ptr 35,1,8,(some (.ptr none)),false⟩),(37,⟨.array 96 3,96,768,(some (.agg (List.replicate 96 (.i 0:V)))),false⟩),(39,⟨.struct [(0,36),(1,3),(2,37)],98,784,(some (.agg ([.ptr none]++List.replicate 97 (.i 0:V)))),false⟩),(41,⟨.slice 95,1,24,(some (.nils)),false⟩),(52,⟨.slice 3,1,24,(some (.nils)),false⟩),(57,⟨.iface,1,16,(some (.nili)),false⟩),(58,⟨.map 3 29,1,8,(some (.map none)),false⟩),(59,⟨.ptr 148,1,8,(some (.ptr none)),false⟩),(60,⟨.ptr 138,1,8,(some (.ptr none)),false⟩),(61,⟨.ptr 173,1,8,(some (.ptr none)),false⟩),(63,⟨.struct [(0,32),(1,57),(2,58),(3,59),(4,60),(5,61)],6,56,(some (.agg [.ptr none,.nili,.map none,.ptr none,.ptr none,.ptr none])),false⟩),(70,⟨.slice 5,1,24,(some (.nils)),false⟩),(72,⟨.struct [(0,3),(1,3),(2,3),(3,31),(4,70)],5,56,(some (.agg [.i 0,.i 0,.i 0,.int .u64 0,.nils])),false⟩),(81,⟨.struct [(0,4),(1,3),(2,3)],3,24,(some (.agg [.bool false,.i 0,.i 0])),false⟩),(82,⟨.array 96 81,288,2304,(some (.agg ((List.replicate 96 ([.bool false,.i 0,.i 0]:List V)).flatten))),false⟩),(83,⟨.slice 155,1,24,(some (.nils)),false⟩),(84,⟨.ptr 154,1,8,(some (.ptr none)),false⟩),(86,⟨.struct [(0,82),(288,83),(289,84),(290,31),(291,81)],294,2368,(some (.agg ((List.replicate 96 ([.bool false,.i 0,.i 0]:List V)).flatten++[.nils,.ptr none,.int .u64 0,.bool false,.i 0,.i 0]))),false⟩),(87,⟨.slice 109,1,24,(some (.nils)),false⟩),(92,⟨.struct [(0,3),(1,3)],2,16,(some (.agg [.i 0,.i 0])),false⟩),(95,⟨.struct [(0,3),(1,3)],2,16,(some (.agg [.i 0,.i 0])),true⟩),(98,⟨.struct [(0,3),(1,3),(2,3)],3,24,(some (.agg [.i 0,.i 0,.i 0])),false⟩),(109,⟨.struct [(0,3),(1,3)],2,16,(some (.agg [.i 0,.i 0])),false⟩),(110,⟨.slice 98,1,24,(some (.nils)),false⟩),(119,⟨.slice 205,1,24,(some (.nils)),false⟩),(120,⟨.array 32 4,32,32,(some (.agg (List.replicate 32 (.bool false:V)))),false⟩),(121,⟨.array 32 3,32,256,(some (.agg (List.replicate 32 (.i 0:V)))),false⟩),(123,⟨.struct [(0,119),(1,31),(2,120),(34,121),(66,3),(67,3)],68,336,(some (.agg ([.nils,.int .u64 0]++List.replicate 32 (.bool false:V)++List.replicate 34 (.i 0:V)))),false⟩),(135,⟨.ptr 226,1,8,(some (.ptr none)),false⟩),(136,⟨.map 3 31,1,8,(some (.map none)),false⟩),(138,⟨.struct [(0,135),(1,136),(2,31)],3,24,(some (.agg [.ptr none,.map none,.int .u64 0])),false⟩),(142,⟨.struct [(0,3),(1,3)],2,16,(some (.agg [.i 0,.i 0])),false⟩),(144,⟨.map 3 142,1,8,(some (.map none)),false⟩),(145,⟨.array 96 52,96,2304,(some (.agg (List.replicate 96 (.nils:V)))),false⟩),(146,⟨.array 32 52,32,768,(some (.agg (List.replicate 32 (.nils:V)))),false⟩),(148,⟨.struct [(0,144),(1,145),(97,146)],129,3080,(some (.agg ([.map none]++List.replicate 128 (.nils:V)))),false⟩),(154,⟨.struct [(0,120),(32,121)],64,288,(some (.agg (List.replicate 32 (.bool false:V)++List.replicate 32 (.i 0:V)))),false⟩),(155,⟨.ptr 161,1,8,(some (.ptr none)),false⟩),(156,⟨.ptr 233,1,8,(some (.ptr none)),false⟩),(158,⟨.struct [(0,3),(1,3),(2,156),(3,4),(4,4),(5,31),(6,31)],7,48,(some (.agg [.i 0,.i 0,.ptr none,.bool false,.bool false,.int .u64 0,.int .u64 0])),false⟩),(159,⟨.array 2 158,14,96,(some (.agg [.i 0,.i 0,.ptr none,.bool false,.bool false,.int .u64 0,.int .u64 0,.i 0,.i 0,.ptr none,.bool false,.bool false,.int .u64 0,.int .u64 0])),false⟩),(161,⟨.struct [(0,159),(14,4),(15,3),(16,52)],17,136,(some (.agg [.i 0,.i 0,.ptr none,.bool false,.bool false,.int .u64 0,.int .u64 0,.i 0,.i 0,.ptr none,.bool false,.bool false,.int .u64 0,.int .u64 0,.bool false,.i 0,.nils])),false⟩),(168,⟨.slice 92,1,24,(some (.nils)),false⟩),(170,⟨.slice 110,1,24,(some (.nils)),false⟩),(171,⟨.map 3 3,1,8,(some (.map none)),false⟩),(173,⟨.struct [(0,170),(1,171)],2,32,(some (.agg [.nils,.map none])),false⟩),(179,⟨.slice 188,1,24,(some (.nils)),false⟩),(188,⟨.struct [(0,3),(1,31),(2,31)],3,24,(some (.agg [.i 0,.int .u64 0,.int .u64 0])),false⟩),(202,⟨.struct [(0,3),(1,3),(2,4),(3,4),(4,70),(5,4),(6,31),(7,31)],8,72,(some (.agg [.i 0,.i 0,.bool false,.bool false,.nils,.bool false,.int .u64 0,.int .u64 0])),false⟩),(203,⟨.array 2 202,16,144,(some (.agg [.i 0,.i 0,.bool false,.bool false,.nils,.bool false,.int .u64 0,.int .u64 0,.i 0,.i 0,.bool false,.bool false,.nils,.bool false,.int .u64 0,.int .u64 0])),false⟩),(205,⟨.struct [(0,203),(16,3),(17,4),(18,3),(19,52)],20,192,(some (.agg [.i 0,.i 0,.bool false,.bool false,.nils,.bool false,.int .u64 0,.int .u64 0,.i 0,.i 0,.bool false,.bool false,.nils,.bool false,.int .u64 0,.int .u64 0,.i 0,.bool false,.i 0,.nils])),false⟩),(223,⟨.ptr 258,1,8,(some (.ptr none)),false⟩),(224,⟨.slice 227,1,24,(some (.nils)),false⟩),(226,⟨.struct [(0,223),(1,224),(2,171),(3,31)],4,48,(some (.agg [.ptr none,.nils,.map none,.int .u64 0])),false⟩),(227,⟨.ptr 229,1,8,(some (.ptr none)),false⟩),(229,⟨.struct [(0,31),(1,179)],2,32,(some (.agg [.int .u64 0,.nils])),false⟩),(233,⟨.struct [(0,70),(1,3),(2,3),(3,31),(4,31),(5,4)],6,64,(some (.agg [.nils,.i 0,.i 0,.int .u64 0,.int .u64 0,.bool false])),false⟩),(258,⟨.struct [(0,179),(1,171),(2,4)],3,40,(some (.agg [.nils,.map none,.bool false])),false⟩)],[]⟩
end Am.Sigs
