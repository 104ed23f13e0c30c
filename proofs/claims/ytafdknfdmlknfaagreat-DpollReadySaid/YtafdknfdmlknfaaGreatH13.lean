/- Our own library, part 13. -/
import Derived.Test.YtafdknfdmlknfaaGreatH12
set_option maxHeartbeats 8000000
set_option maxRecDepth 800
set_option linter.all false
set_option maxRecDepth 100000
namespace Am.Sigs
open Am Go
abbrev uF {α:Sort _} (f g:α) (_:f=g:=by (repeat (apply funext;intro));conv=>{lhs;cbv}):α:=g
section
variable (S a b c:Nat) (vs:List V) (is:List I) (ps:List AC)
def rV (N:Nat):V × Nat:=match N%33 with
 | 32=>(vs.getD (N/33%a) .nilfn,N/33/a)
 | n=>(([.i 0,.i 1,.bool false,.bool true,.nils,.i 2,.i 3,.ptr none,.i 110,.i 111,.i 64,.i 31,.i 32,.i 113,.i 115,.i 116,.i 4,.i 95,.i 112,.int .u64 1,.i 96,.i 5,.i 8,.i 16,.int .u64 0,.int .u32 0,.int .u8 0,.str [],.i 10,.i 100,.int .u32 1,.i 65536]:List V).getD n .nilfn,N/33)
def rO (l N:Nat):Opd × Nat:=match N%3 with
 | 0=>(.t l,N/3)
 | 1=>(.t (N/3%S),N/3/S)
 | _=>match rV a vs (N/3) with | (x,N)=>(.c x,N)
def r1 (l N:Nat) (k:Opd->I):I × Nat:=match rO S a vs l N with | (x,N)=>(k x,N)
def r2 (l N:Nat) (k:Opd->Opd->I):I × Nat:=match rO S a vs l N with | (x,N)=>match rO S a vs l N with | (y,N)=>(k x y,N)
def rL {β:Type} (r:Nat->β × Nat):Nat->Nat->List β × Nat
 | 0,N=>([],N)
 | n+1,N=>match r N with | (x,N)=>match rL r n N with | (l,N)=>(x::l,N)
def rB (l N:Nat):(Nat × Opd) × Nat:=match rO S a vs l (N/32) with | (x,M)=>((N%32,x),M)
def rI (l N:Nat):I × Nat:=match N%20 with
 | 0=>r1 S a vs l (N/20) .mv
 | 1=>r1 S a vs l (N/20/1024) (.faddr (N/20%1024))
 | 2=>r1 S a vs l (N/20) .load1
 | 3=>r1 S a vs l (N/20) .nilck
 | 4=>r1 S a vs l (N/20/16) fun x=>.extract x (N/20%16)
 | 5=>r2 S a vs l (N/20/1024) (.store (N/20%1024))
 | 6=>r2 S a vs l (N/20/32) (.bin (([.add,.sub,.mul,.quo,.rem,.and,.or,.xor,.shl,.shr,.andNot,.eql,.neq,.lss,.leq,.gtr,.geq]:List BinOp).getD (N/20%32) .add))
 | 7=>match rO S a vs l (N/20) with | (x,N)=>r2 S a vs l N (.pick x)
 | 8=>match rL (rO S a vs l) (N/20/1024%16) (N/20/1024/16) with | (x,M)=>(.call (N/20%1024) x,M)
 | 9=>r2 S a vs l (N/20/1024/1024) (.ixaA (N/20%1024) (N/20/1024%1024))
 | 10=>r2 S a vs l (N/20/1024) (.ixaS (N/20%1024))
 | 11=>r1 S a vs l (N/20/1024) (.loadN (N/20%1024))
 | 12=>r1 S a vs l (N/20) .lenL
 | 13=>r1 S a vs l (N/20/4) (.un (([.not,.neg,.xor]:List UnOp).getD (N/20%4) .not))
 | 14=>r2 S a vs l (N/20/1024/1024) (.append (N/20%1024) (N/20/1024%1024))
 | 15=>r1 S a vs l (N/20/32) (.box (N/20%32))
 | 16=>match rL (rV a vs) (N/20/32%32) (N/20/32/32) with | (x,M)=>(.alloc (N/20%32) x,M)
 | 17=>match rL (rV a vs) (N/20/32/32%64) (N/20/32/32/64) with | (x,M)=>match rL (rB S a vs l) (M%32) (M/32) with | (y,M)=>(.bslice (N/20%32) (N/20/32%32) x y,M)
 | _=>(is.getD (N/20%b) .fail,N/20/b)
def r3 (g:Option (Nat × Bool)) (h N:Nat):Option (Nat × Bool) × Nat:=match h with
 | 0=>(none,N)
 | 1=>(g,N)
 | _=>(some (N%S,Nat.beq (N/S%2) 1),N/S/2)
def rC (g:Option (Nat × Bool)) (l N:Nat):(Nat × I × Option (Nat × Bool)) × Nat:=match rI S a b vs is l (N/S) with | (i,M)=>match r3 S g (M%3) (M/3) with | (g,M)=>((N%S,i,g),M)
def rP (j h N:Nat):Nat × Nat:=match h%2 with | 0=>(j,N) | _=>(N%1024,N/1024)
def rQ (l h N:Nat):Option Nat × Nat:=match h with | 0=>(some (l+1),N) | 1=>(some (N%S),N/S) | _=>(none,N)
def r4 (q:Option (Nat × Bool)) (l h N:Nat):Option Nat × List (Nat × I × Option (Nat × Bool)) × Nat:=match h with
 | 0=>(none,[],N)
 | _=>match rL (rC S a b vs is q l) (N/8%32) (N/8/32) with | (c,M)=>(match N%8 with | 0=>none | a+1=>some a,c,M)
def rM (j l h N:Nat) (q:Option (Nat × Bool)):(Ins × Nat) × Nat:=match rP j h N with
 | (j,N)=>match rQ S l (h/2%3) N with
 | (d,N)=>match r3 S q (h/6%3) N with
 | (g,N)=>match r4 S a b vs is (g.or q) l (h/18) N with
 | (x,y,N)=>match rI S a b vs is l N with | (i,N)=>((⟨j,d,i,g,x,y⟩,d.getD l),N)
def sJ (r:Nat->Nat->Option (Nat × Bool)->Nat->(List Ins × Nat) × Nat) (j l:Nat) (q:Option (Nat × Bool)) (N:Nat):(List Ins × Nat) × Nat:=match rM S a b vs is j l (N%36) (N/36) q with
 | ((x,l),N)=>match r (x.ix+1) l (x.guard.or q) N with | ((r,l),N)=>((x::r,l),N)
def rJ:Nat->Nat->Nat->Option (Nat × Bool)->Nat->(List Ins × Nat) × Nat
 | 0,_,l,_,N=>(([],l),N)
 | n+1,j,l,q,N=>sJ S a b vs is (rJ n) j l q N
def sD (r:Nat->Nat->List Nat × Nat) (p N:Nat):List Nat × Nat:=match N%2 with
 | 0=>match r (p+N/2%8) (N/2/8) with | (r,M)=>((p+N/2%8)::r,M)
 | _=>match r (p+N/2%S) (N/2/S) with | (r,M)=>((p+N/2%S)::r,M)
def rD:Nat->Nat->Nat->List Nat × Nat
 | 0,_,N=>([],N)
 | n+1,p,N=>sD S (rD n) p N
def rK (p:List Nat) (N:Nat):List Nat × Nat:=match N%4 with
 | 0=>(p,N/4)
 | 1=>rD S (N/4%64) 0 (N/4/64)
 | 2=>rL (fun N=>(N%S,N/S)) (N/4%64) (N/4/64)
 | _=>(p++[N/4%S],N/4/S)
def sA (r:Nat->List Nat->Nat->AC × Nat × List Nat × Nat) (N:Nat) (p:List Nat) (l:Nat):AC × Nat × List Nat × Nat:=match N%12 with
 | 0=>match r (N/12) p l with | (x,N,p,l)=>match r N p l with | (y,N,p,l)=>(.seq x y,N,p,l)
 | 1=>match rJ S a b vs is (N/12%128) 0 l none (N/12/128) with | ((q,l),N)=>match rK S p N with | (p,N)=>(.region 0 q p,N,p,l)
 | 2=>match rJ S a b vs is (N/12/8%128) 0 l none (N/12/8/128) with | ((q,l),M)=>match rK S p M with | (p,M)=>(.region (N/12%8) q p,M,p,l)
 | 3=>match rO S a vs l (N/12) with | (x,N)=>match r N p l with | (y,N,p,l)=>match r N p l with | (z,N,p,l)=>(.cond x y z,N,p,l)
 | 4=>match r (N/12/128) p l with | (x,M,p,l)=>(.block (N/12%128) x,M,p,l)
 | 5=>match rK S p (N/12) with | (k,N)=>match r N k l with | (x,N,q,l)=>(.loop k x,N,q,l)
 | 6=>(.skip,N/12,p,l)
 | 7=>(.ret,N/12,p,l)
 | 8=>(.exit (N/12%128),N/12/128,p,l)
 | 9=>match rO S a vs l (N/12) with | (x,N)=>match rK S [] N with | (y,N)=>match rK S p N with | (k,N)=>match r N k l with | (z,N,p,l)=>match r N p l with | (w,N,p,l)=>(.rangeFunc x y k z w,N,p,l)
 | 10=>match r (N/12) p l with | (x,N,p,l)=>(.scope x,N,p,l)
 | _=>(ps.getD (N/12%c) .skip,N/12/c,p,l)
def rA:Nat->Nat->List Nat->Nat->AC × Nat × List Nat × Nat
 | 0,N,p,l=>(.skip,N,p,l)
 | f+1,N,p,l=>sA S a b c vs is ps (rA f) N p l
end
def jA (S N a b c:Nat) (vs:List V) (is:List I) (ps:List AC):AC:=(rA S a b c vs is ps 40 N [] 0).1
abbrev yA (S N:Nat)  {g:AC} (_:(jA S N 0 0 0 [] [] [])=g:=by (repeat (apply funext;intro));conv=>{lhs;cbv}):AC:=g 
abbrev yB (S N:Nat) (a:AC) {g:AC->AC} (_:(fun a=>jA S N 0 0 1 [] [] [a])=g:=by (repeat (apply funext;intro));conv=>{lhs;cbv}):AC:=g a
abbrev yC (S N:Nat) (a b:AC) {g:AC->AC->AC} (_:(fun a b=>jA S N 0 0 2 [] [] [a,b])=g:=by (repeat (apply funext;intro));conv=>{lhs;cbv}):AC:=g a b
abbrev yD (S N:Nat) (a b c:AC) {g:AC->AC->AC->AC} (_:(fun a b c=>jA S N 0 0 3 [] [] [a,b,c])=g:=by (repeat (apply funext;intro));conv=>{lhs;cbv}):AC:=g a b c
abbrev yE (S N:Nat) (a:I) {g:I->AC} (_:(fun a=>jA S N 0 1 0 [] [a] [])=g:=by (repeat (apply funext;intro));conv=>{lhs;cbv}):AC:=g a
abbrev yF (S N:Nat) (a:I)(b:AC) {g:I->AC->AC} (_:(fun a b=>jA S N 0 1 1 [] [a] [b])=g:=by (repeat (apply funext;intro));conv=>{lhs;cbv}):AC:=g a b
abbrev yG (S N:Nat) (a:V) {g:V->AC} (_:(fun a=>jA S N 1 0 0 [a] [] [])=g:=by (repeat (apply funext;intro));conv=>{lhs;cbv}):AC:=g a
abbrev yH (S N:Nat) (a:V)(b:AC) {g:V->AC->AC} (_:(fun a b=>jA S N 1 0 1 [a] [] [b])=g:=by (repeat (apply funext;intro));conv=>{lhs;cbv}):AC:=g a b
abbrev yI (S N:Nat) (a:V)(b:I) {g:V->I->AC} (_:(fun a b=>jA S N 1 1 0 [a] [b] [])=g:=by (repeat (apply funext;intro));conv=>{lhs;cbv}):AC:=g a b
abbrev yJ (S N:Nat) (a:V)(b:I)(c:AC) {g:V->I->AC->AC} (_:(fun a b c=>jA S N 1 1 1 [a] [b] [c])=g:=by (repeat (apply funext;intro));conv=>{lhs;cbv}):AC:=g a b c
abbrev yK (S N:Nat) (a b:V) {g:V->V->AC} (_:(fun a b=>jA S N 2 0 0 [a,b] [] [])=g:=by (repeat (apply funext;intro));conv=>{lhs;cbv}):AC:=g a b
abbrev yL (S N:Nat) (a b:V)(c:AC) {g:V->V->AC->AC} (_:(fun a b c=>jA S N 2 0 1 [a,b] [] [c])=g:=by (repeat (apply funext;intro));conv=>{lhs;cbv}):AC:=g a b c
abbrev yM (S N:Nat) (a b:I) {g:I->I->AC} (_:(fun a b=>jA S N 0 2 0 [] [a,b] [])=g:=by (repeat (apply funext;intro));conv=>{lhs;cbv}):AC:=g a b
abbrev yN (S N:Nat) (a:I)(b c:AC) {g:I->AC->AC->AC} (_:(fun a b c=>jA S N 0 1 2 [] [a] [b,c])=g:=by (repeat (apply funext;intro));conv=>{lhs;cbv}):AC:=g a b c
def c3_0 :=yA 218 0x63de92341de2ca863d8a4b5c2c12ed436fb39afcfbcbe4b10d587bac73f7d594d5fbe32a69612b8b1e5efcc06bb657315c0231a344404b053f608581eac1ad782ea4036972e87904bacefafeef134c1f5d4549ea6343f0d465510
def c3_1 :=yB 194 0x46df09bf59ce30607b7bdd6ddd2f404ce5156bdbb9fb5d793fe7bc074eefa8f3baf8ee27472f357a106442af86631775f303b2ae6d80706d3a47ddbc2c6447bc2676d056b8093d9e2eea2cd32be696660b88f820deb350 c3_0
def c3_2 :=yB 173 0x88bdbaa772c6d0a67ac0cb6bae4106e9cffc312d99059387ca7cef250a93c2fe6db8eb2853d62c74d3dcb9978852e7247c0012bdca8af03b8967a62adc5132fac243d61b6ae932e2b0fe43350 c3_1
def c3_3 :=yB 154 0x4ffc9c290ee8342bff7a47d5873451a4508b71e7026f5e7e24b48dbff18e3fbbda9d1d1fcf85148c c3_2
def c3_4 :=yB 148 0x57ccfbc9f0f8bad08ed1b01cff77b2ada3e8fce992f179fd841abbf1cf3c77ece10 c3_3
def c3_7 :=yB 222 0xc92a4155bd55358241d1eb1aeb8f19f46a7788e640a022d30f2dd1e2f229c97c2d0709db688bbd1d9e9ddc1937b4d8baba0a8acff66be718471cdf2d71e5377bb3564a0c4cf7fecc343c55b17900ea807f3bfc6bd1d391cb4bf0ffb0584dadd2f68628787c8b8410 c3_4
def c3_8 :=yB 131 0x12cf2a034e70e777ba4860d54677641ecc3984841f3f6979089433f2a5076e29865c87e78bf44ac200e252699703d33fb349ef190c c3_7
def c3_9 :=yB 119 0x4986d73b11b39cda6eacb07b0c3b7af59d285921bcb3f3ba7986263b93356efa344db3a7 c3_8
def c3_10 :=yB 113 0x9b5d781f4f2b3a27bac937a1fde6bad1c048579b809df22ffc47b855c16fcf16b6977 c3_9
def c3_11 :=yA 105 0x1833ab8ea25b05d4e9a0af993a2c42688ba4d7c6681f449
def c3_12 :=yC 107 0x3a364e7b53a5291d9a0da04090937381cd155c18f3898d3d89e3bc46e7b912c c3_11 c3_10
def c3_13 :=yB 97 0xe3c78773827db1dd8d0befe74764a8eeb6e31899405b9779563511f85de4b3913cbd4d5a477caf36c c3_12
def c3_14 :=yB 91 0x39294fe2fb1d338a504696729e342b363557de34f312c9762d400efd727448045b90 c3_13
def c3_15 :=yE 85 0x3e017665ca1522319ec5a8fdb366de8936c (.eq .ptr false (.t 82) (.c (.ptr none)))
def c3_16 :=yC 223 0x84f1675e2341c8010aa61e5fb855bf0e1109e5134fc068cfb4c9b81689750dce270e3ce10 c3_15 c3_14
def c3_17 :=yB 78 0xf42fb373b6599cd6a795f58889beae1b0d6ebfeffb92f6c8a1493ea00254bb3563c c3_16
def c3_20 :=yB 69 0x43ee1e8d21248b87c1123f6d4ed168da5e43311c4f744b3fc c3_17
def c3_21 :=yB 64 0xa5da0122054b7202384ea1e2624837791abf2d011aad5355a4c65927d7d30e5504bec7c234db979ced72fe8c8ac51fa363820ed48e64eb2a56ad3a24e51d1ad6a5e78243d3bb846157f8cf742121de57056dc269f675b9e8e1cda515f3280b83624cec55a48af02e829679b7449224b40f95d5f449308064bb17ed578cb20c0719b4e325c62735b6b96dec2d7302a1850 c3_20
def c3_22 :=yB 34 0x15f87b09f50e2dbd0fdc364efd85a1eac61f6f6fc7b4ad08034c39aa665712dc c3_21
def c3:AFn:=⟨4,223,[.tmp 8],yB 9 0x1ea6b1cf76c9109c c3_22⟩
def c5_0 :=(uF (fun a b c=>jA 78 0xa08e0c4e7c9fad596ed9fcbb66bdc891771d8961bf2d0efd92cb67a2caf00c849e6c57b62c31ab588c09d4e11ad285797646cf4449c1e6498166e36f0df81a649ef7ffbb8f1b35a6b6b65251b7ac4f8aba5c3e98f45a21ece53293263aa49e4dc 1 2 0 [a] [b,c] []) _) (.int .u64 3) (.build [.i 0,.i 0] [(0,1,(.c (.i 0))),(1,1,(.c (.i 2)))]) (.eq (.agg [.int .i64,.int .i64]) false (.t 60) (.t 61))
def c5_4 :=(uF (fun a b c d e f=>jA 42 0x15a68bd67e05f51ceee1258895343bd3e85525df33e8f2a33cf256c0da0ec8dab0c009f16763cc2ba235df39bc7219e8c6a4ecd1d321e3758b2051f5688f644566bea0bbd2a9872b47e1cd244e82a9555f9e6a152c87b025a89e42ccf89d745130ccea191127246a229b03eb4d54a97b6e1fc6cc5a69dae81067b5d5354cfa5973ac0701d01202a0746a9dd09c 2 3 1 [a,b] [c,d,e] [f]) _) (.int .u8 97) (.int .u64 9) (.mark (.t 25)) (.build [.i 0,.i 0,.i 0,.nils] [(0,1,(.c (.i 1))),(3,1,(.t 26))]) (.build [.int .u64 0,.bool false,.nils,.nils] [(0,1,(.c (.int .u64 3))),(3,1,(.t 28))]) c5_0
def c5:AFn:=⟨1,78,[.tmp 2],(c5_4)⟩
def c6_2 :=yG 21 0x26b68f33e56e4cccd68abb59a18b88c34bd55fcf32f2aac2c25a085a3af690c8d25357c54f3f9397837587f61c5cdc03f8cee60ef624f2ab1079d3647787472a507235f36d7751894fd07501f93bca3e34c2aa424d4cd20cc278cc654d0 (.i 2000)
def c6:AFn:=⟨1,21,[.tmp 2],yB 3 532422217884 c6_2⟩
def c7_1 :=yG 45 0x163df0ab14cc0c36b83d2cb44ad1985a64efc9ff1290b423c591f1f6c459d29671f88aabe72261e7bc87164c78e0aa08fd5276958a6973b50142e15b90 (.i 300)
def c7_2 :=yH 31 0x276828e16061bb58cdf880c76afdddf6529a46164d109e968401792ee3cbb3f7d493f67bad6fab61843842782f70820cd51529d7c89f0134c5280e5504d16f30dfb85366d3e6d5f70c41ee88aabb346f35bd0 (.i 60) c7_1
def c7:AFn:=⟨3,45,[.tmp 6],yB 7 0x17d6b927192d09c c7_2⟩
def c8_0 :=yE 5 0x3b77274a7a440d0f9edfdb20e1bbbd60109c (.build [.ptr none,.ptr none] [(0,1,(.t 1)),(1,1,(.t 2))])
def c8:AFn:=⟨0,5,[.tmp 0],(c8_0)⟩
def c9_7 :=yA 98 0x3b83f97dfa9cabc7c886bfa7079929b6b5cf37f6f876965abb1507b4bbba86db5f8f51f9f4bd73c4166e47a1bf6768612511df301fdf2b5f46397f18ccc42c85fcbf14f82c097c3cad0b284a001666ea039cedc3f2d8a52f4d91fffdb4c54c5ff85f33900e4654d08baf16920e8382eb505a6b08eae8d4001809b14af6df2db0b191a2c7a00422ce98f07b5f9cdc312c
def c9_9 :=yB 125 0x11c81f0efc808f52aabb92a527b824b1c6b375b758eda2b5c612a8bfa6e1afcbe57fa9f42c2cec44626e1846746f4470427387fe8de917764e1b2eca84ee54b27587d62d495a0f1f9447cf25f431cd7c913e18dbb1583cdc7bc356650b3865d6e5c6d2391f70a479a58207acb0ae16b82423366aeb3e3392a52606f86d2bc7dffd03966ab8b12ce2ef9eb0a9fde28fe7d1b52012f4e10 c9_7
def c9_13 :=(uF (fun a b c=>jA 205 0xa8f2e41c6c8c4748bed8743c939de440eb51955794c2f8cd3329eeb05f07c88f7a352b5a6c993f6bae404537735410f00a1ff32782283825b9339a82c1467d05b76fe5954ef00d31635f12f61d008ddcaf0541491c3d4792c6cd90c 0 3 0 [] [a,b,c] []) _) (.ofBytes (.t 190)) (.ofBytes (.t 192)) (.eq .bool false (.t 196) (.t 197))
def c9_20 :=yA 274 0x200f04d6d3ca0827fff489b3b4f9f61198c8c3f98dd08ca9893ed23ac2a666f77b1dffdcf39e0ec2f1f5d667697c735469a8736813256dea7b8b651885b92a3c9137f2c355cf1abab0ed807cfd73f6520f217ef312c
def c9_21 :=yA 238 0x117719dc315c103a7f90902c6be37e7836977a59c76c0cbe3833b01ffc74ffbf79a5cf07af21d8d0cd903c37aa2f9446377d3e659a5b079e88a1aadf60d260a3510032c47be27572cf36af78ee18e36df21601a8e317b4d6add2fbe0cbc102c2366a6b0f74e4c1566266c61a2fcac6975c
def c9_24 :=yA 162 0x3831a7105cedd63e598b88295254ceb885e270497bcfb514c046602b5c6d818293223b5edd8fb8eab54f1db9d40eb80fb4f66a0c141d29f9c65fe319ae5231d016b82057e48f41dc54bc4c9c376670f24136e36e83de5ed0ba9edeebe7b3ef8825a35b6d7e961e9df45e604e79f088ba03bfc57e26a8dce4a5e82497ec
def c9_25 :=(uF (fun a b c d e f=>jA 256 0x9a0bb155456d350fdf92d32373fc829cdf6ecab5de89fcf1992654d028c42aee6d51954261708fe85be30d3fc3f0951ef9cae8740514a842f03f32dff5d8fb500853f9a4700c47fb365170bc4d04405077871347b93605a780889c473ae3c51e75e1108c74dd8d8437d5b9bb746bb130d3024cba2092b118b6be38480b1cec9cd03d10ccd33088bdebb407d6f44257cf0d36e2c3c70a26034d0de3f0a582e5a790053c512c 2 0 4 [a,b] [] [c,d,e,f]) _) (.i 6) (.i 7) c9_24 c9_13 c9_21 c9_20
def c9_27 :=yC 46 0xaad9b04adb012ec1367107bbb20e8009e1b2e12d22da112ebdf9f1cdab141bb1b5313399fbcc54f80ce6e1ded46449ff69d145787fce10 c9_9 c9_25
def c9_29 :=yH 289 0x427ded1beb6a1d0ccf58e85e33c8c6944d1d14074775426a7e0d360b5a8fb031d73cde37731cb6fb2c40cdf200a7157a293e050d2fd0dd1b7ff1d09a86c7f4637fc33ce3c8227e281a0e81bf50f8a51f43f414a6945c2e4cefa5d29d1c57bf32a52fbd04078043db654e36dd9faf5758f63d25f35985fb41a82512dc (.int .u8 1) c9_27
def c9:AFn:=⟨2,289,[.tmp 4],yB 5 0x5bbfb6ebb2a21cd12c c9_29⟩
def c10_1 :=yI 11 0x7a383b2ebb66d76063d4f744a73d3395180d887b04759be22eceddc15d8e2a1a6acd4d0 (.i 120) (.build [.nils,.nils] [(0,1,(.t 8))])
def c10:AFn:=⟨1,11,[.tmp 2,.tmp 3],yB 4 0xee3f9ac8fad12c c10_1⟩
def c11_1 :=yE 16 0x1096f2fb36b9ac5c1e25ed715db3bf961245c93660a324c01046616a434ee23b412a57342284caf6af629375beb589e771bc (.eq .ptr false (.t 7) (.c (.ptr none)))
def c11_2 :=yM 20 0x13d6e9416c69a354ffe6f56622936c (.build ([.ptr none]++List.replicate 98 (.i 0:V)) [(0,1,(.t 16)),(1,1,(.t 17))]) (.box 99 (.t 18))
def c11:AFn:=⟨2,20,[.tmp 4,.tmp 5],yC 6 0x13c192e1bcab4916ca2112c c11_1 c11_2⟩
def c12_5 :=yG 54 0x1fd6ad35dffb14d2af17ce6606b76f96184c00dfd4564e4f7635d4c7d067cbaad9ec9282d62d27c74aca1ed381b1863633657d189ce538401be37339cb0e70e017e3f3d9d9f2687f8129a6dfd45c9fe5895b90 (.i 191)
def c12_6 :=yH 39 0x469d7df9e28dd153e18c4eeeb24e3a83db0d4d748e90a64bd84477fe60e02299b8584735369e5b3ea7caa15092d1f2f5eae05dd51b8004a6720b11b7c88ddb2d1298bdb8d2e99d6278c82d782dc2064503c46a0d84078e39ed4b3e0a3b3c8a84441b24f92ab083cdd89fc44de1ec3424a776bf90d64b6d3e949280db890e9d252b017e562d09c (.i 38) c12_5
def c12:AFn:=⟨3,54,[.tmp 6],(c12_6)⟩
def c13_1 :=yA 16 0x1ea7437268d8c88312cd17947a8d499588ac91f89de3e09ece86c943d47c3e4796bab00355c62913fc
def c13:AFn:=⟨2,16,[],(c13_1)⟩
def c14_4 :=yE 103 0xe368f479948f9ce414a5ed1f21b38ee341daeaa17a42ebab5aceb2db85bc8838154fa951c4bad41ff77cd6b9b09a9f71579de0bcfbbd6719a3e4ff2edc10dc6104773dbef881d24c413657628f1548d92ccac90 (.lookup (.leaf (.int .i64)) (.i 0) false (.t 85) (.t 90))
def c14_5 :=(uF (fun a b c=>jA 79 0xa9eadbe8a4457e4674066953acd9144683b4aaf04c4bcc2e15330ac5db2f318e2a4f57551ada5f019125b6c0afd5e8d1e6f3b149c9546ee33641cc8e810ad5a6268d576206c53868ae18f49aacbe6b6185c84b23919fe8430bdf2a2d7560ff130e071831b79f37df1be67a1bb28c405964160b671e22183fc0c41bce10 0 2 1 [] [a,b] [c]) _) (.lookup (.leaf (.int .i64)) (.i 0) false (.t 61) (.t 62)) (.build [.i 0,.i 0] [(0,1,(.t 74)),(1,1,(.t 75))]) c14_4
def c14_6 :=(uF (fun a b c d e=>jA 54 0x23d5615e810190d844981700bb89e00168a3ac69849dcee9a08640532e7175098c914a262711c9e3c428 1 3 1 [a] [b,c,d] [e]) _) (.map none) (.mkBm "roundhouse/dpoll.told" (.t 43)) (.nilckB "roundhouse/dpoll.told" [(172,177),(174,197)] (.t 48)) (.invoke [(172,177),(174,197)] (.t 50) [(.t 47)]) c14_5
def c14_7 :=yB 42 0x46d1aed6e10734573a6287d3a58ec26ebf604c00f5f7fde72caaf297558f75ad6f5f6f6041d70b2b76910 c14_6
def c14_8 :=yF 35 0x164bda5e9268cc6c6790ab16598c1ae73c25618313e07278f587ea19d5ac (.mkClo 47 [(.t 12),(.t 4)]) c14_7
def c14_9 :=yJ 26 0x3d86e71b28e613a0e8665e2a1c82d3a6a6317aa7b3ebe105dbf7097a86ed3aa3e3356e5799b5d02ddf8b49c521ce10 .nili (.eq .ptr false (.t 18) (.c (.ptr none))) c14_8
def c14_10 :=yB 18 0x835cc45d60003a72f1c8abd93a9234fc72bd36056ed2bb6590d3b7e0ce10 c14_9
def c14:AFn:=⟨4,103,[.cell1 8,.tmp 9,.tmp 10,.tmp 11],yB 12 0x3793736de6891869f7ff29972d39cc74592dc c14_10⟩
def c15_0 :=yA 110 0x30a9b1da28c494d80153ce2547187fcaaeec177a718571a121f48b9cfb61fdc3db6d75c12ef4679293b96e149c79d48c6d21bac3e8f8d6f43ef163ade9b62e43aaacf39e17365cbb94ac8c004397f8bffe1c
def c15_1 :=yF 85 0x12c58e75c502030615c8a9c06ec0bd2ef949e8150c79dfbc39e23700a26d989f8823b36f417cbe35cea032bd4a58c0a516cbeb1d5d1357c090c5954e2e14788d9e541cfc (.eq .ptr true (.t 64) (.c (.ptr none))) c15_0
def c15_3 :=yB 63 0xbf21dcd7bb637026a9634295e5d1d0ed34521d2b33204db5c463000517202f3affcd731dca1363c c15_1
def c15_4 :=yB 54 0x2ffd451a33152fff62b436b71d78ae212013ba298894243c36d6dd8b0bbccf015f8303d408b9382ed90ceac2f8d821b1b77f586250 c15_3
def c15_5 :=yF 41 0xcfa884b73f4547d974f3538de7e34ed559e08c7ec50c2c6eabf34b3fc (.build [.bool false,.bool false,.bool false,.bool false,.bool false,.int .u64 0,.int .u64 0] [(0,1,(.c (.bool true))),(5,1,(.t 37)),(6,1,(.t 39))]) c15_4
def c15_6 :=yB 36 0x2a3cfe3ac5a255093d7bcd4d1563e6c87e0f848bbcbb30e0a6aa180f46de0aaa7658a0adcb1b885fee77d7ee6b3daf83c1dc2ff3acffa33c68d40400cb2919dffd8ebe38aa7fb4f12f30ee19d6b8 c15_5
def c15_7 :=yF 21 0x13b4fb6962ba1a22861d8481a88f555a5762e5ce10 (.build [.bool false,.bool false,.bool false,.bool false,.bool false,.int .u64 0,.int .u64 0] []) c15_6
def c15_8 :=yB 18 0x10e6abe88103b3f925e0af0bd39d66c6c8d6a1c6b1b96e06cf125a18106dc033a163c c15_7
def c15:AFn:=⟨2,110,[.cellN 4 7],yB 5 0x6fae926033c70f6292f2909c c15_8⟩
def c16_1 :=yA 18 0x1363832792a7515497ecc8dd9858ad7ac2ff917a33789de1db59844509aae7701a19d01557de19a4b17d71d45f3666fd0
def c16:AFn:=⟨2,18,[.tmp 4],yB 5 4789558483587228 c16_1⟩
def c17_0 :=yM 4 0x5edd46a40733ab08024c (.build ((List.replicate 96 ([.bool false,.i 0,.i 0]:List V)).flatten++[.nils,.ptr none,.int .u64 0,.bool false,.i 0,.i 0]) [(289,1,(.t 1))]) (.box 294 (.t 2))
def c17:AFn:=⟨0,4,[.tmp 0],yB 2 116227805340 c17_0⟩
def c18_4 :=yA 35 0x20359e336dc693b53947a630fa3e28e5891cc2d7f3d575451655a9dfc85c6562147a9f79a11a2ba238761e8ba11b47188c8c098c3ddfc0c5b83c4306c9e851bc676057b9b3a343787695b4dc62fbd9972e1dc6479a965da7891e480b3d8ce6759c1be3743b16b16ae42faf6c7d667a1b4a09dd94f49811bc
def c18:AFn:=⟨2,35,[.tmp 4,.tmp 5,.tmp 6],(c18_4)⟩
def c19_0 :=yA 9 0x1aebe21b0bfe0df0cf559d4ba3449dc55b4a237b283e161b72bd34e10
def c19:AFn:=⟨1,9,[.tmp 2],yB 3 535049883804 c19_0⟩
def c20_1 :=yA 52 0x1ade7520d17ef635a0861ce78db8bed25b8d7096d84aa6d560c1c818789e332e2a1f85cdc4d3b175148436c6a16627a521d021340709c0bd78a9c3007a630333efcf7621ece6250
def c20_3 :=yG 37 0x25564009166cab3202a493b51e243c8d7cde3079ab02dbf60ce3ea06d4df5d14d6da0ab89b77827831e18ea173d35e78de2e4fd4aa37bb3c6161893bd814b86789331770baf1eed70828d42e2e250 (.i 999)
def c20_4 :=(uF (fun a b c=>jA 16 0x8373c086bba08d236841a9d3323a2f0e9fe5c3e9a2a0695be68b74e13e7309e526247dcdcb28aa316859364e140e7a47fd2cebcf79abfd2180410 1 0 2 [a] [] [b,c]) _) (.i 50) c20_3 c20_1
def c20:AFn:=⟨1,52,[.tmp 2],yB 3 0x2cdf1f6ec1e12c c20_4⟩
def c21_2 :=yK 20 0x5c28e0a1cf64384ba726e19229be4077c02a84c12c2f48148ee3850a74501cd9fd454bf15a27e1499b94a1963e892891f1268af13128294e6f9a78ad51b3d8933a22506fe10dc64723dcd077a4daa71dd45f241ed510b954f352f36cd4d0 (.i 200) (.i 300)
def c21:AFn:=⟨1,20,[.tmp 2],yB 3 532183339164 c21_2⟩
def c22_3 :=yK 83 0x3de4d347b449c707f0382f961fc23da28a573f63df027ec4ccca94f7cfdecba9c67f81602168899864b0f9c6a84131ccd121905984b4fa4976d5f3064f6942ea6f9aec69f5bdb84d3daa18ab21fde99608071510bf30cd3d4474848c279095ddb325e7546fe47689bdcb882e0546492153ea41b508e215c13ee58f104e49ea9e53d8b3fc (.i 1100) (.i 20)
def c22_6 :=yL 84 0x18642638432ec96aa1cc3bf25e5c5cefdf1f3dc3555f45f15b5975309ff815cb2bca00c00703cf8d757b3185193948990b4c25922a5b7f6b65f517f5aa6ec3cc33eaf48956e53275ffb1ec0f88bb5bbefb60538f1f7d52cba7a225ae887d3886d6091e53718072decfae67d9c2fdc21c14741fe2418af972e1a9d8e926b88f74 (.i 60) (.i 500) c22_3
def c22_8 :=yB 13 0x1dfb4bcf80335f4ed27eed78ae0d56b86cc6eac280563f929be4ec7a324b3e6ea589e10b13b102a74ee54ebe6863fd4d0 c22_6
def c22:AFn:=⟨1,84,[.tmp 2],yB 3 532183339164 c22_8⟩
def c23_0 :=yM 3 0x119018f8aadaabbcd2d109c (.build ([.nils,.int .u64 0]++List.replicate 32 (.bool false:V)++List.replicate 34 (.i 0:V)) [(66,1,(.c (.i (-1))))]) (.box 68 (.t 1))
def c23:AFn:=⟨0,3,[.tmp 0],(c23_0)⟩
def c24_4 :=yA 37 0x3580462cb08169fe47207c4e9ec17631146aaf0637e6673bb65aa0d5490ad50e7ad6debc24ce027c29971c57a8f94fa06eff1134657b2b33db8d058caa6c40dd634dff1e45c43882b26667f2fd7ca2670df187fa530860685829f593c037fa72e9b23ec2d67f9aae4456401e63f6e72d50184e1f3da7631b9ab4b39ea9eebf4da80e3956696272211bc
def c24:AFn:=⟨2,37,[.tmp 4,.tmp 5,.tmp 6],(c24_4)⟩
def c25_2 :=yA 25 0x1f2df22a435725c903f398d5daeaf6812635fd2048284f7efa3f5916f5ac61c0aca9132fc4734730f4b21ea01c973550a12c64c6604eb3044694f7d484e046882a76e090a76649ce2dbbb5ac
def c25:AFn:=⟨2,25,[.tmp 4,.tmp 5,.tmp 6],yB 7 0x1c2e621d6ba304310c11bc c25_2⟩
def c26_3 :=yE 36 0xfd1962f193e06a359585b75da50e1f009a2da19c0f5a8338f117ad3fee1f1dba14faa6269f021f49420001a536356341d98d55fecf0c70eb5f36a9ca5921d1c28657d46a233c151774f4258e9c10c00cb4e4057e46d5480439f4bd3d79754290e27f433b2c916ba701460f2039879a102fcad52efd0 (.build [.i 0,.i 0,.ptr none,.bool false,.bool false,.int .u64 0,.int .u64 0,.i 0,.i 0,.ptr none,.bool false,.bool false,.int .u64 0,.int .u64 0,.bool false,.i 0,.nils] [(15,1,(.t 18))])
def c26:AFn:=⟨2,36,[.tmp 4,.tmp 5,.tmp 6],yB 7 0x1c2e621d6ba304310c11bc c26_3⟩
def c27_2 :=yE 116 0x5b08972d8a17f403f3017f8a7e3c9ceb2f06d972f513c36c51fa61078392640b69af3cb74c0fcaa280074d708389d2c514b146aa1668cc75da5e86c6779bb228 (.slice 1 (.t 113) none (some (.t 114)) none)
def c27_3 :=yB 103 0x97d6421b15e010bbf3760686deba2d4efd23ba445c0edb0392c52f0a8378596b6019777a842786dfc4151decb38e82bf45c53abc36526732adbf672500adabfd21ab5e68a6ec4d07d0d352a1547262a7309578d7daac750 c27_2
def c27_4 :=yB 86 0x126767b6c7c3a2bfebf3579157153676742b8481ffc474db53381ce10 c27_3
def c27_7 :=yA 77 0x220705a1af903d44a4fa47ed338285e20691200b3c4cc563a7e13c3b034bb2f53578f0fa50f75bd4024a42f0cce6cc18cc1df5377db62f17d204fbd9a97eb39417bf2ffcc5f8e2d92d5ac11e2c8a2916d0f2e83c12f9e14689ad2553216d69cf19845531d0758fb901fcfce657db8badba891800102c49fe4e10
def c27_8 :=yB 82 0x15188bde90477012496f8acf096937f4238135fe5a52376f7e6558cacab2557424e10 c27_4
def c27_9 :=yN 45 0x55c8f45bf9961020155f4919241c376d1fcd541f84b99b37666f87b2a216bbbf2464a89724c (.build [.i 0,.i 0,.bool false,.bool false,.nils,.bool false,.int .u64 0,.int .u64 0,.i 0,.i 0,.bool false,.bool false,.nils,.bool false,.int .u64 0,.int .u64 0,.i 0,.bool false,.i 0,.nils] [(16,1,(.t 43))]) c27_7 c27_8
def c27_10 :=yH 43 0x12aef4bea9400028a08a663d18e45bb95f03175a524f0f932fd14e016d4cf92c40edcfbd46b7f8598359190 (.i 1000) c27_9
def c27_11 :=yB 31 0x5c9a56f2900b236fb59a3abc5f0e1cd98f881837435047e1c69c903af4e10 c27_10
def c27_12 :=yB 27 0x11da3b665dcef66b46175ad52c57d80738b6cc0c9bcb04698b01fbf3b08c309b9ce1f46e0b65688dccc18148e81a130a21daca5aedfd91d9489f10 c27_11
def c27:AFn:=⟨3,116,[.tmp 6,.tmp 7],yB 8 0x1da1d5b8829fb95512c c27_12⟩
def c28_2 :=yA 30 0x8cf516a101e47d1b6096c6726802971461ba73759b8870ea5982a45228addf6cc
def c28_3 :=yB 55 0x13907eed07b3acc54b1cbdd789a6f0dc3f05bdc44806651782bee9269d54fec288a62b15a22045628027f3f0d9bb05df675d21db7675536f608ce6e2b6de4791ea3d0d0461cb0e8efbd3250d1d94f08ca6f197b63e1696eccda6a08c2ea961c65e5bee73886c26910 c28_2
def c28:AFn:=⟨6,55,[.tmp 12],yB 13 0x2c462577e7edab909c c28_3⟩
def c29_3 :=yM 79 0x27baf4ac463423ae303117c60d69cd515ee525be3efa8fcd50bed3980ca76c2832572f62739431fcab12bb4c283bfc1cda89acce942b9455cda41d99a83f02d1e45d108b2651c28fe4e345d34a4c3ddb8ffb7c1df426747c279c39685ab53e69eb7974f3a651e694d060d27a1799fb7e2e54d2133f82d812f976856c12b22ca1dc7b7eb44f75083be4b6f0713551c (.slice 1 (.t 48) (some (.c (.i 1))) none none) (.build [.bool false,.i 0,.i 0] [(0,1,(.c (.bool true))),(1,1,(.t 72)),(2,1,(.c (.i 0)))])
def c29_8 :=yB 44 0x2da9f9078250cfd6b336f6f27fac65f30fa88dc41d232517cf087f25c1653ea8891da7dd1d5d61e6b8936489474ec6615d56dfae23fc09ab05691ff4e10 c29_3
def c29_9 :=yB 35 0xde78c8e6af2b440ce3da3bf696eb73e271b61923548b6030081f8bba5dfb6de74fdecb7b740fd271a989a7c1e5f6d842c5c6de479db9a9a537152e233eeed7b891874f45850067ee77b7142b46176d7aa1b4a3f1f6dd976f020ddfe90ff8e257649c4b1b50124c547cc7c05d5007ab3961cbda63eb39310ddf537a53a89cd9836284be102b7d5cb6ee58cc8c7ca243b59843db95078354306bdc6b56cc c29_8
def c29:AFn:=⟨2,79,[.cell1 4,.cell1 5,.cell1 6],yB 7 0x1ed8e4150c15b12d08a6cce53ba8d0e5724c c29_9⟩
def c30_3 :=yE 94 0x2ee24ddfde898e6ec0d6b06916fb0fb22103f0a8e8209003d304cb92d58f144d00e4509a8bc81bdc9c20fe872997a080c826cfffe78cb14a7da5a0fcafd22a91f59c1fea03da2ab5486998413e92b66b9015d83c80932a56d88b55429867d7e25eca064960442d1fed383ae7bfd782c4755dd7d8a816ab77490272809ea8c773a2a8905399c (.slice 1 (.t 65) (some (.c (.i 1))) none none)
def c30_7 :=yB 53 0x6bff4ee09bc62cfe91fde1bee6def45ae2a061e94a8e422ac6edf604be692e1c913de457029438cce140f710d32db06dae612351e4d5bdfc0d859599fe6bf920b3cd394790865a5bc4b6d6bc836fb651f941b8204989c80b334ee59658eb534471cf5220676bc2d9993b4ce3d415fc61cdc836953180de72de4c60a3a5b2fd71b924c7d7966e2eb06781d0637d50 c30_3
def c30_9 :=yB 19 0x2e518340b997861e654869c34acc09a1f16a38c061297c2733695b40836a34707ce038aa9d184623731a148c c30_7
def c30:AFn:=⟨2,94,[.tmp 4,.tmp 5,.tmp 6],yB 7 0x1c2e621d6ba304310c11bc c30_9⟩
def c31_6 :=yA 53 0x9e4a852d130a86c4b59541b21feae02732d5d3ced44260b86a417b54be7ac42893ecb916a691490d7f42a9d3c45cc5632b8fc43b5c939a6cd1d1c63d8bbc29b1f0c298eba3f16f5a4afd3ab36f132ad4e910
def c31_7 :=yF 40 0x32ccda81daa74ffe7626d49fd69aadffbc0e2d509b3bbf7e40d68d2f6f423595dd18a97df3e941094fa29a9feb3abef2e8a03979e3d323dbaaa94b0e801ba46a12f203c4585be7abd8021f31b6912369a9aa433e6208fe5b80e37720771767dd426c5b3be29eb968bfc17aca7e0e5ebae0f871fa70140fd7fd0a5f503069cc64f603b1af0779299e46a9edbf6f2eeb4e869ddedc71943caff5f7a163c (.eq .ptr false (.t 30) (.c (.ptr none))) c31_6
def c31:AFn:=⟨3,53,[.tmp 6,.tmp 7,.tmp 8],yB 9 0x24420b805a62004712851bc c31_7⟩
def c32_1 :=yA 86 0x1af7a6e5af838a8370126abbf5da473113520668dbf0bb34e0964522340f269d31e62c21c5d0b0629b2fd129741391dfaf94abcd9652f42b52863edcca6b519ee3ce54c43c91bd22bae0cad2a26edac0d98f801113cf31625eee1504757f6d0
def c32_4 :=yB 59 0x96fcef2066c36130a67ba81307d7ad1c3146435e25b58fb5b409dfb12f81730d3bf6b13bb283a988d9ae33dfc3214ad5db04e01251e1a8a27c31d3065fe13716ea1c778cfe218556285edc1e127d5650019c28f1f61e04194b005ac31c053e7e601b65717b220559a5bb79cf344ad192fee130ee75ad9b66628b230134e10 c32_1
def c32_7 :=yB 31 0x820980357005f30f519b0489f03e094493e030fc7df1e7cc1998ab58c34616338920e31171f9222d60ea4a808ae35a03bf164e374e2dcccfc3f1cde127a4ceefe9edddcd225d06390723185cb45417ac387c3919e15a31e7e25939a148c c32_4
def c32:AFn:=⟨3,86,[.tmp 6,.tmp 7,.tmp 8],yB 9 0x24420b805a62004712851bc c32_7⟩
def c33_3 :=yG 63 0x6cc111b1d84ec6ee0062428b49ac985e77069dfd9834d4aee39704a8697c68c72041ce94cd70990c9caebc2a2a5af3f64e1cc07a86256639a51552a44acc0a11f485e2840e486eb530c8dbb06735e5fe4555279772405c8f65546b59537135ec4c66fd7c4887ee466def971ff131a60d19d80e7d31cd2dc (.i 114)
def c33_7 :=yB 71 0x357fcc257ef78aa17058526b905e950df49f79b8fffd67230b47a3a6d44231f470ca8e53c2dc4ed4d0c8db824e6ca750a9b0db2aa2c40f9fe403efa40bec709b9a1dc9322d19302bf08430586bc079c96bb3bae685f3d4ea2a9131c02301761d5e3800c61e21e5b6792dfc47f7a557160c1bff955f9832da5a647e7d07ce7218476b85d35476d4aba842de253957e3b3a8ef9724363c c33_3
def c33:AFn:=⟨3,71,[.tmp 6,.tmp 7],yB 8 0x1da1d5b8829afa5512c c33_7⟩
def c34_2 :=yA 76 0x262b8ebaf43631224efa3a3db4a321fdbbb8e0a20f88ba9283ac867d9198dfe940046fdfdaaeef1da569b0c7c11972c953dc63b65e601f5a8c0aa22abfd22e1e3d934480f996b854d0
def c34_4 :=yH 65 0x420e73be1d896563a3b546d00d5b18b254e80b94dba3b7fbf621c241bb258cf16f1df359b5745397652d4a7583f5a6cd5533313d692399b81976597a1eee68f165243f03acd755b5d8c69d025891cf5b7082c5c9e339af64bd77186daffa127c02608bb1e26c19704c32aefa119b6fce48711b57690 (.i 114) c34_2
def c34_6 :=yB 31 0x6ded1c47aa0f959309d72a8044d4837113b3710ebebe3902c9fc8fddb9d4fcb52e0da243b455d174c1a8f6fbcaa6d434e4d172826f78ebe244495806713b22870e17e60656bdc28a3b52814dd7a4ab5fa8b1e7e25939a148c c34_4
def c34:AFn:=⟨3,76,[.tmp 6,.tmp 7],yB 8 0x1da1d5b8829afa5512c c34_6⟩
def c35_2 :=yE 44 0xa99ef0290181b106c89807ec557e8e8cbf2937ac4fee29115f15eae779c0657a89495359d0994051fffb240abcbafb94dc9578cf02e509ced364ee73d3909434f6d89efd36d7126efc6b7ce32560c9fef3fd54ca554f7ca167a23bb20d7fde0343f6887f423e66209b9dcb4eccbc9b9b83dd7bae964c3e02c0220bd7823ad1e9803e7a0c82693f88dbb63c (.eq .ptr false (.t 27) (.c (.ptr none)))
def c35:AFn:=⟨2,44,[.tmp 4],yB 5 4789558483587228 c35_2⟩
def c36_1 :=yA 45 0x7a345db1c4fe9da8f41e95baac34634a65c6e2dde4cbd34ea8d49252a67109716ec30e378f03b344182c72af6cee974c1eeb5d537501d7c4d044aaa983ae9f39fb63759e34ce6797d2960eb0e639d897027799e495633200cfcfc429222dd49aa034dd6d7e8e17c75d82084a76c1846033e42796544e4dc81b32cfe57e0b1080d80afe1eba1f50b1948c
def c36:AFn:=⟨2,45,[.tmp 4],yB 5 4789558483587228 c36_1⟩
def c37_3 :=yE 51 0x7400172efc7b829004734bfa005a569e87a7e6fee752cabb1f7f3415cae635e8249b3745101597f032c4d89ca97c3088534d03ab875bb21eb2b3e8000c03a38ac346467ed4f5d12b65d2b585e2a3c7941bbebb02cdadaf4a3e61a9bf9c64e600f058b17afbc734ea1dc299fb7f581d7d67a76a8916a48810ee5d877d18705f214b13fc (.build [.bool false,.i 0,.i 0] [])
def c37_4 :=yB 20 0x2736fd8e3657d13cb4d6cb730ea38c09a679953b68fcbd5d49776b5ac1ff808e2f524a6dcf7df841d23e2b1b805f5cacfeff63c c37_3
def c37:AFn:=⟨2,51,[.tmp 4],yB 5 4789558483587228 c37_4⟩
def c38_3 :=yA 53 0x143b34127a3251deb771efdb7aceffdc5c427029512708c81a531d8091e744e695c0b0f94ee6bd4be962a508cc80c8ac0ac7957088f78649b3b7622edb992f6cd21e78f6e00659280dab449469f8e07d78875d8f780217a254379ef41f446085331a62a8b9751103244afaec48be211fccd3fac8619bfe0231f13b3a73a2924c
def c38_4 :=yB 16 0x431af43c99ba8048237def2c4a1e7bf1d57ca378795de361dcd270d4c3d5ff25c93c04a65bb48c c38_3
def c38:AFn:=⟨2,53,[.tmp 4],yB 5 4789558483587228 c38_4⟩
def c39_21 :=yA 303 0x17888e0d6b074410225dcf87beb7c4cdbd6c54a7b31e479ac9f9e140cf7d2b0f1a7d129e8e48ebb4babf62564ff267e9e6f76fe5ca1068b77b8537a523065b8a7f5ac
def c39_22 :=yE 281 0x338183b77f2f2d3d5bfa47551871e09172f4543fa6104605eb3a69b7c4df5395b84388b0c6b71400dfed97ed6b3265d1eb2a401814e55c9130badf68bd0a2aabfd7b66e144db8538ad2040148ce08b30f5f8788a330e59a5dbf633f91d618c746996b30798900d9828b476c90e5f7a7880e62ee30807d801e6f20a48d733f4d65d281325b286d19964726e7ab2753de513dce47f36c (.eq (.agg [.int .i64,.int .i64]) true (.t 274) (.t 278))
def c39_24 :=yA 249 0x1fd1ed2514ce23685bbd82b5cf1f0049114761b43ec61643ca35b843fccaabed750d391feeb12094c580b3e5828e3633983c051b48c
def c39_26 :=(uF (fun a b c d e f g=>jA 333 0x133c58aa90f25678c179564a653e686eca8433ba76f368ec156423665a41c107b6a4bdb91cca312551904dbf94fac2035dbd20e30ca40a3c6304f8aba5e03b124ea556af45fb39c53598b0c7eda97f472e1dff0e43e7d5a5b94bdb188fd8c2fb27d7e17911ddec4d52e1d6e68daeb25c69970376cd320078de9846856ff637c84027a6c95fab2861766dc4084d527d4cb85edbd221d62a15cfffbdb16f45e03004a50d12c 4 0 3 [a,b,c,d] [] [e,f,g]) _) (.i 17) (.i 18) (.i 19) (.i 20) c39_24 c39_22 c39_21
def c39_29 :=yH 231 0x7324cb5770274778def8d50b4b45c6ab957afe95bc46dfb3b9251905d128da2884b76be6e1e777a725a7f164875d330318f6e1cdd5006993e441c0868f4dc2e897bb096919209c863f3ea4d07d32efc7d4cde092b17b3dad0641e84c35858a3cbd4206681522d3645a090a704ada6d87361ac39cdd83ee82316da7f8cf278957c2c9f0782f74c261660fc62512c (.i 15) c39_26
def c39_30 :=yA 157 0x330236f8d05d1ba9ab6536bd8c398ebb9c7346c56ff8909c84a3d3b4bdba6b207826d63f33fc8a93c5e4ca5b3e4afa7dcd696348c
def c39_32 :=(uF (fun a b c d=>jA 191 0x18897fd1ff97262939f5a850a3ac775d8e85d53319816b66809e10092ca2bf98de201f5ec39c4cc22ee084d1563b19359b2a40af1a7d644ec114b8fbe3c3dff6892e2bd4bae44d9b547e96a504a8b1c4e2308f82d07473b685b750c6fd46a8fd97b67c308d4f5ce5e3ac24ecb3d1cb092ff318826fc46a191783b7633b368ddc5fe3895f3494e16e618ca015c29d12c 2 0 2 [a,b] [] [c,d]) _) (.i 13) (.i 14) c39_30 c39_29
def c39_35 :=yL 139 0x3e15edd56308633ca607f20eb68c0bc9e05719568c81686cbb39dd4bc98dc52322a4e2c5240838d3722d1451614593fdaaac29d8aa12654513d906c28f4ab0bfaa1c87e9f25ad86e37f96d31f326bc4e6d110a5bbda68172716ca123279d27d309f9bd7dd4b72f79fa13787cdeda56b51a44907fb4b5148f6c6d0c890b14c28970ac9f0512c (.i 11) (.i 12) c39_32
def c39_36 :=yA 67 0x8c8444a6792b4c1d47c10144932e7e2af91526f535d50cccffc16b16676c58441cffce214348556a67afeb85e8c58c87f4f315df4ca9e3e4dfd8a32cf590d1e9b77a56372ee6cf85fa96fdbf822c2a109dcd3787c204d476dba01209e7a09dbeb2161b98d35375c
def c39_37 :=(uF (fun a b c d e=>jA 103 0x97ae55c356e5fd0b95a2ab143fef1f3b4c3354055fce59b8420f7c2a777191d0cc0515fa42d0ef36fb7a9ff001c213b2ea9c863f26e93aae6921fa681dc1e995e84d43d5513b759bfd1a93975b8566b6771cd40a6898b5c6abd1364f0b7210c2357249d58d497cae4bbd099c849a9f42692eeacda30cfb3bdf4f4e028715caa4a293ce08becd1c52c1ccb12c 1 2 2 [a] [b,c] [d,e]) _) (.i 9) (.ofBytes (.t 93)) (.ofBytes (.t 95)) c39_36 c39_35
def c39_38 :=yB 34 0x2782eb5decfb7c0157e3e698d75a446c752d7d31023a47cecdd12c c39_37
def c39:AFn:=⟨3,333,[.tmp 6],(c39_38)⟩
def c40_0 :=yK 11 0x1ee2d2ded29a8dcfa0076104385609dc434ef6c5616f51c (.i 2000) (.clo 94 [])
def c40:AFn:=⟨1,11,[.tmp 2],yB 3 532422217884 c40_0⟩
def c41_2 :=yA 19 0x48d6cf32540517b972ef323930bb5c0fd213b1dea2672e6367427f91b3993dee008df8b7bcf71d32fb60c4eb928a241021eb7509701c869208ce2bbbc5528f070cbbd01eff3e9e009221114b3c9436d3379cc7fd4d0
def c41:AFn:=⟨1,19,[.tmp 2],yB 4 0x478b5ad0581f49ad09c c41_2⟩
def c42_0 :=yM 12 0x28acf3629c132e18fa91427e983a6c4f35b1616f5ac (.eq .ptr false (.t 3) (.c (.ptr none))) (.eq .ptr false (.t 9) (.c (.ptr none)))
def c42:AFn:=⟨1,12,[.tmp 2],yB 3 532422217884 c42_0⟩
def c43_0 :=yA 9 0x10c959813265cfeb861d253d68f7535cd2f3fc
def c43:AFn:=⟨1,9,[.tmp 2],yB 3 532422217884 c43_0⟩
def c44_1 :=yI 24 0x19ef9bff8c598ffa5b06212b11ff470488df2ec81980a41d5f57d776c96c9161017701b408ec1a96a384b9053a688e84a6c3ac28f7c19ea2d50e2b8a2d551c (.i 190) (.field 0 none (.t 11))
def c44:AFn:=⟨2,24,[.tmp 4],yB 5 0x3b39a75040d89752b1f877c0b909c c44_1⟩
def c45_0 :=yA 33 0x3e02b2a0e373a18bfa79f97fe91950b5d785eb2746d59312624ed58b946d
def c45_1 :=yE 40 0x237ccc17fca77262194a286b9b9752972ee8ad6d31dba1ced923d55533230e (.build [.i 0,.i 0] [(0,1,(.t 34)),(1,1,(.t 36))])
def c45_2 :=yA 22 0x198b1419e3308691226b8a249c19e88e82ffc797e022f33b39fd7a1f446d
def c45_3 :=yD 25 0x344e7aa2866053e67b93b0a389480354d77e22bc59c9a5fb17aacb7d7e79954d0 c45_2 c45_0 c45_1
def c45_5 :=(uF (fun a b c=>jA 49 0x26d6f6488c8d650d3c29b555c119403059f8dff81373985a4f20a1d5f1fc0e818a9c74536dbe6b64a2be753bf4a7ba49e3753d4842208c7f7ab4645c0f7215a702be994e10 0 2 1 [] [a,b] [c]) _) (.mkIface 172 (.t 45)) (.mkIface 174 (.t 47)) c45_3
def c45:AFn:=⟨1,49,[.tmp 2],yH 5 0x34215b0ce35eecf418a5d345495226de509c (.nili) c45_5⟩
def c46_3 :=yA 98 0x4697c28b17169b286d816b82091b5bac7ecc9136361f0b6776d67ce0e74baf0c20d58b96d2b9512234a0d916d28b27ab5e7bd167f807f7ce91d9d4e982fa2721f96242930ef29f2d35f4c757f68a84ebc26526065d94925998ed36123e7bad186d3737cc50f9d9369a0ce96490779c64b5d91e4f61cf6108c1270fc8f67bc6b31cafe33fc
def c46_5 :=yB 60 0x4df9916480ff0d648a0a7291452a4a59b0a9d712f0e2b301d7c5365d00555cb9eb84ded15892ba200ee7f567a0c7b5fabb154ad6d4ff003bdcb07dc6d2264cf9ba13fc c46_3
def c46_6 :=(uF (fun a b c=>jA 43 0x24068709d00b25bd7f1286c4eba987436b77e4ae745c72eb76adfeb3fc 0 2 1 [] [a,b] [c]) _) (.eq .fn true (.t 37) (.c (.nilfn))) (.callv (.t 40) []) c46_5
def c46_7 :=yE 121 0x983e05bebcb35f1303feff551b59c100187647cc2f0f871affba24f8f146a7b7eda4b0ddf0a19b2140c927382c31cea1c3ccf774fd8103eee2bf7d45ac82245e1517a897b770c355ba132d51c (.minI [(.t 108),(.t 115)])
def c46_8 :=yA 36 0x18dc67d09d9b2c7939e27d59b7c425d142b8c7702a4f43ed2ffda1954029644c9b8551c2d4034c2a135e2b9a5025669879b1180d2545154f34685710249f0fbaf8ac90
def c46_9 :=(uF (fun a b c d=>jA 17 0x26686b8d13dfe882ff6f02afb6c17a0c678162a2e6fa6939e20ce323a236ef0cb2770ed63ab76910 0 1 3 [] [a] [b,c,d]) _) (.eq .ptr false (.t 11) (.c (.ptr none))) c46_8 c46_6 c46_7
def c46:AFn:=⟨5,121,[.tmp 10],yB 11 0x25766e1190b89509c c46_9⟩
def c47_0 :=(uF (fun a b c=>jA 12 0x349735dec60c2aba6b360ca57d9bdd6f75e1f5ac 0 3 0 [] [a,b,c] []) _) (.mkBm "roundhouse/dpoll.holds" (.t 3)) (.nilckB "roundhouse/dpoll.holds" [(172,176),(174,196)] (.t 8)) (.invoke [(172,176),(174,196)] (.t 10) [(.t 7)])
def c47:AFn:=⟨2,12,[.tmp 2],yB 3 0xa35a5a573509c c47_0⟩
def c48:AFn:=⟨1,4,[.tmp 2],yI 4 0x3e74bc8c76a4aa590df662612c (.nilfn) (.mkClo 101 [(.t 1)])⟩
def c49_0 :=yA 14 0x1f90cfcfb58567cc05c460b1cc0746782474a34ea07ddfdddf83272146909536c
def c49:AFn:=⟨1,14,[.tmp 2],yB 6 0x3a7f1b01092b5cd6fed5324f0381c1a029f9dd09c c49_0⟩
def c50_1 :=yE 29 0xcbd007afe866d25979685191987ec297f6a4a30c3529ab3b4206263e6ef43b34364a1072cff07c03b8a48734d33b188fb3e81644b3d3b63a4f1501fcc0c9e97ee800d1725106234779d76bd6a8fcf60c0450242ea6bd7991bc (.build [.bool false,.i 0,.i 0] [])
def c50_2 :=yA 48 0x65bef6d184778fae1fe07114497a031a70cd173815e1e82de383a9c4e389715e717bcc61ff9bb6cc2daaed8717624c4d390db07c4b4be6056ef94de91bfb050d3263c6c
def c50:AFn:=⟨2,48,[.cellN 4 3,.tmp 5,.tmp 6],yC 7 0x8e302c0e1b468cb7e4ea210694c391bc c50_1 c50_2⟩
def c51_0 :=yA 9 0x1aebe21b02c61bf07437efc787308441dda71843283e1e60d61b34e10
def c51:AFn:=⟨1,9,[.tmp 2],yB 3 532183339164 c51_0⟩
def c52_0 :=yA 24 0x730400d49687b0d9712c8b5bb5c3a480182c76b5bb2923a5572bbbc4936e1e488b07a0cd755995f849ec5c23fb7783550409333b4c
def c52:AFn:=⟨2,24,[.tmp 4],yB 5 4789558881718428 c52_0⟩
def c53_0 :=yA 15 0x7e25e1593efd4e32ccd096d4f4c80aaaa28aadb3669363c
def c53:AFn:=⟨1,15,[.tmp 2],yB 5 0x3eb06c7e4af3f7725e477a464c156a94d386509c c53_0⟩
def c54:AFn:=⟨0,3,[.tmp 0],yM 3 0x119018f8aadaabbcd2d109c (.build (List.replicate 32 (.bool false:V)++List.replicate 32 (.i 0:V)) []) (.box 64 (.t 1))⟩
def c55_3 :=yE 29 0xef1ec0078a20619b2598fa1f15c8526fe03334692deb464d358121ae4961e2eb3b03d8fefb433da80c57d86f790d91e4f1c65b3421386b5e512dd9a576c43b8d10cfbd63d7b3875511003098d54593565297cc3f4b2e33eb8690a7cfae0a8e4a8f460d4225a2a2e262a204dc0789794563411bc (.build [.i 0,.i 0,.ptr none,.bool false,.bool false,.int .u64 0,.int .u64 0,.i 0,.i 0,.ptr none,.bool false,.bool false,.int .u64 0,.int .u64 0,.bool false,.i 0,.nils] [])
def c55:AFn:=⟨1,29,[.tmp 2],yB 3 533019414684 c55_3⟩
def c56_2 :=yA 19 0xca5e25c2f9ff8df21630575d7ef1ce863eb948125e5a53b9930463dd8ec150cf815166d318234a2b9c1800dc31bc
def c56_3 :=yA 32 0x1f16603551b03ab35cf78e617cdba2f20a9c7c8df5c02f88598ec9668eb66b115008a0b591c4779d65c2c6ce7b43807586182fc82c29f498aecc05a905041c11f0905cb148c
def c56:AFn:=⟨4,32,[.tmp 8,.tmp 9],yC 10 0x20ed4a2354600f42c31bf912c c56_2 c56_3⟩
def c57_0 :=yM 12 0x28acf3629c132e18fae52a8018c4ce24b5b1616f5ac (.eq .ptr false (.t 3) (.c (.ptr none))) (.eq .ptr false (.t 9) (.c (.ptr none)))
def c57:AFn:=⟨1,12,[.tmp 2],yB 3 532422217884 c57_0⟩
def c58_1 :=yE 59 0x1d5dc2b9de4265b2aaa2b053ccb86d4a4503ba8ab7dee36dc995914047a899180fd9e44d6e43aa4085f429aa58ebeeb2ad77609dc18e45d70a2424e2fb61ffdb73a73d43b8858474433a1527e8072a620a5cc1e29323a0d0f42e6ab7b924c (.eq .bool false (.t 52) (.t 56))
def c58_2 :=yL 29 0xb3e6e9c32645e1b64fad22955b1554beca6c58b6208a17739031f571cd4569638f52c6e39dfa4ce0cf793924eab6b663f4d88a5a0d601f577d0da18376b109c0577f4e9b3b02a6290 (.i 7) (.i 1000) c58_1
def c58:AFn:=⟨1,59,[.tmp 2],yB 3 0x2cdf1f6ec1e12c c58_2⟩
def c59_3 :=yA 24 0xf5e9fe28295e0fc1b13a4d757881530453660291bfc1fc1d92df3001f9af40d6f26d0149c2390a822cc4c25fae99b61efe6691899776433aece3c9847abf78fabada088abc88087f2454c81109500786d42ff69173811f30ae2c355b495abfdb9d31238d09c
def c59:AFn:=⟨1,24,[.tmp 2],(c59_3)⟩
def c60:AFn:=⟨1,4,[.tmp 2],yI 4 0x3e74bc8c76a4aa590df662612c (.nilfn) (.mkClo 111 [(.t 1)])⟩
def c61_1 :=yA 50 0x29f13506f16ddba1a270a87af46beea32b91fd677e57ff051ac798729a23fd11b8045a00bbb7b8be1d71c7bddf2abc5e1e88b2edb1f327e7124dc0bc11582402ae6184bd367bdeb2c1ccffa7ec8e68d37e94f3e08265fd4841a1619485982fb9893ca5e64ab5b9147f29e37ecd14742f55bc04e10
def c61_3 :=yH 17 0x2edb1d095e7a66c305207733495711ff53012ce4a141d282b4aff143bf54fa606db29bd089fb4379f6a6e08f9bdb3a7a4f0efbb745d24b80b156cf615f043c6112c (.i (-1)) c61_1
def c61:AFn:=⟨2,50,[.tmp 4,.tmp 5],(c61_3)⟩
def c62_1 :=yA 25 0x3814e9431792cd33269798def11d10d9a8cc96216952185e5321231befdfb81f66baf0cfaf28018343e228345156ec3f82ed9781d56713d1a9195ac
def c62:AFn:=⟨3,25,[.tmp 6],yB 7 0x17d6b92b404d09c c62_1⟩
def c63_3 :=yM 50 0x5b663470d2e81cd0ac2410f4fe61c2d2727d2bbeb6c5f15acd4a4a8e92f36868091aed48eb1b70a753ff265e21cd37738b542d8b6a43925530383d79dbc19298977d4dd72becfa028bfdc6de818c4d26edf88e7bbdb6afe89e69dcfd86956e3b29e114e126086fc9c113737babe911972472ab6b952e708288f4a49500511b2dab519d6cc (.slice 1 (.t 33) (some (.t 34)) none none) (.slice 1 (.t 47) none (some (.t 48)) none)
def c63:AFn:=⟨4,50,[.tmp 8],yB 9 0x1ea6b1cfa180109c c63_3⟩
def c64_1 :=yA 25 0x2b602c69e43b8ab58fdad56cf569442f94950f9c77ccf8696cedd54ef0e2c7e15da64546bd59c40ff7905f4d17bbe74d4254556983121e3237caf1963c
def c64:AFn:=⟨3,25,[.tmp 6],yB 7 0x17d6b927192d09c c64_1⟩
def c65_2 :=yE 78 0x99a8e8ec2653163c5c0ba2b60226be5db177d727f446c8edda071130769d8323daf73a7a516fddde14dfa7295cfd05eff0e60b6ce751c876b5d0ff0e8bc3dd80bc8be93e89fdf0ec20c501cb1b0947c9506608878059bb89c4e0cde986308fdf6fd559f9d8bb6e1182f546ef0649b13e42e2f1e6846d57e92c6f01d1f3db30c37e14be9d9296c64ec67cdb4bb987c (.slice 1 (.t 62) none (some (.t 63)) none)
def c65_4 :=yB 40 0x25d276d364506ab4d0b437dda66171ccc9b0fa36b48714686b590332962213c33669db10b36986c6138d37fb6242e076c0895d617c5035ef305846ec221c40e60ec587717c51ca4f7e36ba87e048c431c5f13c99ceacb1c248910a1cfc c65_2
def c65:AFn:=⟨4,78,[.tmp 8],yB 9 0x1ea6b1cf4c12109c c65_4⟩
def c66_1 :=yA 22 0x3cc9a179699a5b319d4456d30eceb1aa38543a37b25ff00438e44a9a83db9487bd0d6c67acebc77e92e528cbee0ba39d998616d60975f5aeb4308be9148c
def c66:AFn:=⟨2,22,[],(c66_1)⟩
def c67_1 :=yA 33 0xc9f2fb3c3ed2e2d5a35cb3a467cf924b55ef81d88f369f5616a72c1fd12c54ff1eaa088e73c16ba2cbe2a22313ebb7b428a2d5a1e9452c30d7dc538acfad44cfc33bb62595f9f344036595e1d2cee75937bdde756cc
def c67:AFn:=⟨3,33,[],(c67_1)⟩
def c68_1 :=yA 22 0x4a978e14774a27f8aa1ef2c3cdf1f5131094cdd8c2c83d0c8905d4439e9db5e14717929c893268540405176b28e185221de565a396916cc
def c68:AFn:=⟨2,22,[],(c68_1)⟩
def c69_1 :=yA 33 0xf7cf6a10e3910f61b48050cf3230073ceb326b01de865114530e9aad865784632268ff41487b75b07f003daa4eacc985adf07ddd89eb9dee04c3c014dba587f6483e09933633ee396044e1c1d599c
def c69:AFn:=⟨3,33,[],(c69_1)⟩
def c70_3 :=yG 44 0x7eb3c8dbcc362e00dbd24e8ba8cd26ed734b5a6d81482c37964a402eb9b01c98cff6ec377921b3803980471f377aaed34d73815de461838f0836633ccd20a593de77a11db8449eeb73c32c08d42ed68b09ccd9aa617c6bc89f4e6cdc56f389b8b2546627d0305f0caaf3ed23359f1346f17f3055a61523330f3317477752c36c26312829bfd500316dbc00e758eff48c (.i 114)
def c70:AFn:=⟨3,44,[.tmp 6,.tmp 7],yB 8 0x1da1d5b8829afa5512c c70_3⟩
def c71_2 :=yG 49 0x661b6e16d6bd4bcff8ba1b5b74e90bbb540df85a83d4406086a172b541fa812b97d8641091cd05431f9f6d817416fd93484485364ed6177324ad29d17c93c694bcf383bd2b81caa8c676f5ee25dd6d27efac044523805f111b00adaff3d5d3006c09eb57bb4b8d60d657366aad813967621094339dc23b01b2aba23f690 (.i 114)
def c71_3 :=yB 14 0x3be2c983505493429002fb228195b27e7324064f94eba608abff3230945779bb24c c71_2
def c71:AFn:=⟨3,49,[.tmp 6,.tmp 7],yB 8 0x1da1d5b8829afa5512c c71_3⟩
def c72_3 :=yA 31 0x163582b14af67cc2a32f6ef0fb34147ad650a37da55669f9e6dfde6f197980c5ef915d7916ee6cbe4e3bb03a476416e2789209d5402d091aaa7f821bd7ce2f9209cad25fe500a6d495940a6e183e9aa0fe02409c88d9a0dfcc914d7bc8d57b09ca21e5040bc86d489977d0ff48c
def c72:AFn:=⟨3,31,[.tmp 6,.tmp 7],yB 8 0x1da1d5b8829fb95512c c72_3⟩
def c73_3 :=yA 28 0x25196a1c50f6484102db9003e742ef98d05acb5b36f4b62167702243c2c6caaceab20d643d6c1d8927ee428970707dda4405092c5adfec3b7552f44c2dfe30fc0fdfd80a2bd5ed6efe48cedc11282e492ae390793b3d2614478fb0aa7d6c774370d622d500c1429b877450d7a92eff1512c
def c73:AFn:=⟨3,28,[.tmp 6,.tmp 7],(c73_3)⟩
def c74_1 :=yA 18 0xc76ebc96030c854094f365cdb008b521d5719a99198dffb0c8aa3025478df9d8df113365cb2acd89be1a90ed711948c
def c74:AFn:=⟨2,18,[.tmp 4],yB 5 4789558483587228 c74_1⟩
def c75_0 :=yA 14 0x150879035757f0a936dbbf54167dd9793c928ca01970da7da2edcbd0e6dd2ac4e10
def c75:AFn:=⟨2,14,[.tmp 4],yB 9 0x10f4956995eff4ee2195717d5f039c458d909c c75_0⟩
def c76_1 :=yA 18 0xc76ebc96030c854094f365ce4a5f145a8a86bfba3aa10a2f4c8a55300413f9d8df113365cb2acd89be1a90ed711948c
def c76:AFn:=⟨2,18,[.tmp 4],yB 5 4789558483587228 c76_1⟩
def c77_0 :=yA 14 0x150879035757f0a936dc3fe5b5a4b1c94f03eef60970da7da2edcbd0e6dd2ac4e10
def c77:AFn:=⟨2,14,[.tmp 4],yB 9 0x10f4956995eff4ee2195717d5f039c458d909c c77_0⟩
def c78_4 :=yA 41 0x37c9d29c042804c226315cb6033de6a49da35627900317cfd1d125ce121d24adf41829e29e385fe276a0c037ab4161b9ec8b757813e6c264211db6eddc522f90f1a1fa70fdb01ea428d58b08c53e5ab4af4df23c52c72520831436b177d500f4ed8c265d20bb7cbf9b3cbd7fa86746663aaaf0a4442cbedde9ac2ce4e5c34e1a6bd69a2ce8bae936ef16bace4bbb48c
def c78:AFn:=⟨2,41,[.tmp 4],yB 5 4789558483587228 c78_4⟩
def c79_3 :=yA 45 0x1a5907895793d17c9ea91b1d8b1097fd5691b814b50c719c448877528bb53136c343b04f3364c1df9eab889a9b004a4b22bdf6a66afbed850f870c963a073649136e6e991720962a8ff6df9ce271ac7ceebb7a45a29fc807d8b406de772c36e6ca5da3d0e257108aa37338a5b008536f8d0a0d8756dcdd2fcbaadad378bcb493cb0a2bd7fed3a550f690
def c79_4 :=yB 12 0x12b833cf438fa8307d6c197eaaec7de94881d96f41c837a2064174c7724c c79_3
def c79:AFn:=⟨2,45,[.tmp 4],yB 5 4789558483587228 c79_4⟩
def c80_3 :=yA 143 0xb7109f41aba867fdb1fd839c739fd257473ee64ae0a2e48f20957aa63db307adc3d851b58ee662fecef484ae1ec291c2fc3c5bcca6a72e9ae326da59a5f8e401e8b05bab00bf4d6307baed5c50f5d2945a68e8cadb025cb6d04ba9a6f64a4495b35c1798001da35f469223e6e0b3f9e28164bd4f3c0d52cc3a32ade912bbc779fa2bfba30359850d20c958ee9dfe8b0c55580d85da9bc9c8a8
def c80_4 :=yB 101 0x465ead699ebea3de9bea367cedb5686c2a07b4d8a548c c80_3
def c80_5 :=yB 94 0x17be911997b99b8432b8351abbe87940c708c4d110b36c c80_4
def c80_8 :=yG 87 0x20b32d8a7da757ad42ff828bafd5d3a06052d37f638da859b91e170fe0b9dcae01739d3455b4ad4f485df862cdbc92773c1fbcac360a6a50558b0eaee39b2c0e3783ca1128790094e74cfb349d838859631f1b118959701db2840b9da0bed63c947b227167e2b6eb2350dd777e3a0fa5fbf09c3dd24c (.i 1000)
def c80_9 :=yB 53 0x5594d1cd5fc4cd6cc0a4383126ad82673125e15598b1a6213517f87fc07c618299e897142350e76ebad5019a5a2af393cd794d84e0f505927d800ab836c5c63bc968722659e322f915cf63cfda1e436f03f2af29a3c218f3d20a4751e2416e6aadf43845ec0a302c668c c80_8
def c80_10 :=yC 89 0xc63634c8f6fdca73a1b7805aff7f5c59706ad942cd60fcc817d11b7dfa34aa2b03f1bbfce030 c80_9 c80_5
def c80:AFn:=⟨3,143,[.tmp 6,.tmp 7],yB 8 0x1da1d5b8829afa5512c c80_10⟩
def c81_1 :=yA 149 0x14556bd3ba0a22a061005144b37bb10ed853d91499244bda1041a632bf402584926c95ed79d551d0a7f36e417855bc4374d3fff42b7bcfba75b74fff7d49955308068d9b228
def c81_2 :=yB 133 0x7727c3044e9718aea0832ba4a06f3f9fd17ab0102af0da0a79fca66b107765156a4bdeff586191e3eb8956364d89314bbd590c c81_1
def c81_3 :=yB 118 0x10ffa5a2dc140e30919877de702751844b43b831ec262e34f4da45fe5ec748dcc5091c242c4473371d06b3e40fb7582b0a77bc8a8 c81_2
def c81_4 :=yB 103 0xb3ac839daaf964bea013f936e2d65ed08aa1827049cca91abb3a9d8905a71cb63c c81_3
def c81_7 :=yB 93 0xca00c32c660fae88f175c45649b765793e46f9192c8713d724c c81_4
def c81_8 :=yF 90 0x442d5aa56e92d0302cc4d591a69073a663e41a1934293678e2e523e877a9a39d49dd50e50067f3463115d743d7de1e7d30028efc71e6b5d75ef98d0a84976748af6b099967c8a7076a0de37c1b17fc11568f5c609e1354ec5931feb40c74fc101124c (.build [.i 0,.i 0,.bool false,.bool false,.nils,.bool false,.int .u64 0,.int .u64 0,.i 0,.i 0,.bool false,.bool false,.nils,.bool false,.int .u64 0,.int .u64 0,.i 0,.bool false,.i 0,.nils] [(16,1,(.t 76))]) c81_7
def c81_9 :=yH 76 0xea16b3b6e1d5e572bbdbff491cdd0b283c0f37afa56dfa769adfe910 (.i 1000) c81_8
def c81_10 :=yB 70 0x2872aba155a3c9274889f2c12d822e68c5620120e6fef22158b216d7db0ed71d5d8e811d21be30ae636862149870805f9a1eff3f4853a10 c81_9
def c81_11 :=yB 52 0xea923f75e0ddeb606d972c3cf86506797641ef41e458df356ee92c09f603e910 c81_10
def c81_12 :=yB 46 0x180e8aa3437e550472b630ea14f7d72be3e42941969ef976c7dfb6fe56dadeeeddce08b96948c4f63ed1824f05ad3169bcfa2ebc8739366196cf1b2083826e1c78a1f403f975b6d25fc79c810d1d3f6f1648687742c734fcc06016ca17bf106a102cd0 c81_11
def c81:AFn:=⟨3,149,[.tmp 6,.tmp 7],yB 8 0x1da1d5b8829afa5512c c81_12⟩
def c82_0 :=yI 21 0x22860a0d8062f934b28b8a94914a436083e82041db06d803e4af59fecf017f74b5 (.int .u64 18446744073709551615) (.minI [(.t 11),(.t 16)])
def c82:AFn:=⟨2,21,[],yB 7 0x35fbc08a7c1362eb2512111bc c82_0⟩
def c83_1 :=yG 23 0xbf8408d8a3771b4c163ae9d619c34ac05ae812c59ed38113cbf55a82ccd2df061854b049753c2a3ad406c5248a647ffd5aa576324324bd4efd0 (.int .u64 18446744073709551615)
def c83:AFn:=⟨2,23,[],(c83_1)⟩
def c84_0 :=yA 20 0x6d87ddecd38dba9fce97e17835f960ab9e451d90a17dd4ddc2ef74e599d64ba45541baadd48c
def c84:AFn:=⟨3,20,[.tmp 6],yB 10 0x1f5a9fc7e1171a371b98683623f8c2ae313b41346e509c c84_0⟩
def c85_3 :=yA 30 0x17fdf45de587b1e8fa8f2d66638b202c63e0751e6766ff30fadb4db63ab873c5bf1e465bb8f957c32fc5152a169de97e8fb8d741d133ed15ad77d5e270d69599c771240f59d0019e08e2bcb9d4db4f47ffee6cec1e952bed0dde0ea32bbc738bc567d2ca96910
def c85:AFn:=⟨3,30,[.tmp 6],yB 7 0x17d6b927192d09c c85_3⟩
def c86_0 :=yA 17 0xbaf427184b8fc522a6ba42bd8ce4efc6c29f675d95e2ec765169067ac37bab11db93fc
def c86:AFn:=⟨2,17,[.tmp 4],yB 8 0xa45c4dc18cc1ea998cc15106b34af28b3e25932d109c c86_0⟩
def c87_2 :=yA 31 0x4ff85a33272f68665d8be0cbf03710cc54607a5534014c88d393133d3bd2d0b8818c0a120d0ec7fc8d1bd89ac955baa7b3f55f530c99205bdb660d903c9474d5cb0520d42030e2b4fb59a84e0a7029ac452bc0bcaaa4e55ae61ee34072acc5e31648f9186fe6910
def c87:AFn:=⟨2,31,[.tmp 4],yB 5 4789558483587228 c87_2⟩
def c88_3 :=yE 35 0x527de42d6fc4bb8f7de63f9d0736a4e6c65e3eff321e082a59e7d734e0b0c35c7874e3c50435c65e46a3b0bd21803da31a869aa34ee1cea787f3eff6c72a18de6090bcb50f7c1c20faa28a6f4af6ec36c90747494e2e4e6781dc53e556cea2bcca2e862defd9eff2e615fc8eab8346173c9ffa69678733f0a9e04d1f6a4c750 (.build [.i 0,.i 0] [(0,1,(.t 17)),(1,1,(.t 23))])
def c88:AFn:=⟨1,35,[.tmp 2],yB 4 0x478b5ad0581f49ad09c c88_3⟩
def c89_1 :=yM 66 0x2bb1f2b446c920b440821320249aa7a68e7159e76f142dc28a3480025c92687654e6f97804881350526dffd50239b54508a999e4cfb01503dd951033b2420c832b0b504fc82730ff16b36a8bb76e3b8b77c6fa79c5781f13473893b31fe130fac6a42540eb98dc73e17efb89b4fbd91bc (.eq .ptr false (.t 54) (.c (.ptr none))) (.eq .ptr false (.t 63) (.c (.ptr none)))
def c89_5 :=yB 72 0x5282c6330ee8b26509924aa97d21a190b7f448228f7b725a1e67fbe25d579dad61f2ec647057497f5e75b2f8a346db9859ffc4efa203b46051d8c3ddd2ddd63ba46ad5af65e85a331f70a272a674d8cd2669779add60a5dcdb8248151b4c99945e77a07b64f0504858d2613cfabb5cd256544151ba0478e4c173ed36739ab8e563c c89_1
def c89:AFn:=⟨3,72,[.tmp 6],yB 7 0x17d6b927192d09c c89_5⟩
def c90_0 :=yA 73 0x11219648040b69713725dbf0a499a287ddd96eb9f93e4a59ceded79ef2dc
def c90_1 :=yB 67 0x63a0ae74f51bc7d7deda58e1e40451d4b5da6c78d71c3f4de9c920ad6058b635ccd769661be7e0b1bb08334c9e3c0ae604d204762cde3ee2173862ab3261adb390a894d24bc2f9efaf58f6381e3ca646232e5d917eeaabfd5f080878447df39d0a8b2eb3feeb1421785858172545317e3c72610 c90_0
def c90_4 :=yB 29 0xee4406f83edb75138cfee8972b72a10311856100057cf6672bc9584c1b10ef07d7a4701c3ccf01260c6018ab9a6f596a8150ce6968afa027dfa8d12d4e181c6c03deea6a865608163ada148c c90_1
def c90:AFn:=⟨3,73,[.tmp 6],yB 7 0x17d6b927192d09c c90_4⟩
def c91_0 :=yA 19 0x28889a551ac283ad5b751d1700d8545e9e6e0d799794ddcaccde6e67d9b4d3a4c003eedcefe9d071940f5406beb85d63c
def c91:AFn:=⟨2,19,[.tmp 4,.tmp 5],yB 6 0x163572952108f7112c c91_0⟩
def c92_1 :=yA 17 0xa8d700da95db179e73396cf9e1d0640634ecb359e81abcc3ead4b5d57933d1f2f6d30b3a4bc7e1b372cc3fe4e23bb48c
def c92:AFn:=⟨2,17,[.tmp 4,.tmp 5],yB 6 0x163572952108f7112c c92_1⟩
def c93_0 :=yA 9 0x38583d281518ef9e2b7dbcaaa7f4f6685e147044909c
def c93:AFn:=⟨2,9,[.tmp 4],(c93_0)⟩
def c94_0 :=yA 6 0x2200dd1a0a0fdea09aabb5a9adcffa746daac1e12c
def c94:AFn:=⟨1,6,[.tmp 2],(c94_0)⟩
def c95_0 :=(uF (fun a b c=>jA 25 0x39ec5a9912293f2069c9969a6b18964cfc43dcb3143dce0af350217c3892d850c83b4435fefe1c22663f1641e518f681072fbe52d0f60a2ceef82f0bc466307874f5b4ce50 3 0 0 [a,b,c] [] []) _) (.i 50) (.clo 127 []) (.i 120)
def c95:AFn:=⟨1,25,[.tmp 2],yH 4 0x12f2ae5f7ff2455d8c1e12c (.clo 124 []) c95_0⟩
def c96_2 :=yA 32 0x59f9d09ac17e1830952b63da3681bc6ebea32a5f528bdbe51ca60ebe9d006b48a29830a22036112e381284718a1bf39b1a88f5ed063e938a24c1f63a09884e5038097584450d1a99e7ab398c24dd4ad0973d3c8f4bd0908d99e0b57ffa428db90
def c96_3 :=yB 12 0x99ed3bb1e487ad18c479140ec39474aa2bcf0ea4be288dacbed413341a79d80ae8902b984e4f39e95ac c96_2
def c96:AFn:=⟨1,32,[.cellN 2 4],yB 3 0x2a04996addacc8eabc1e12c c96_3⟩
def c97_1 :=yE 20 0x18d3afee708547a96d42b97236fed60fe7810b13ab48592a6083e0ed6131d9df52518f710560bc738a18dc30bc1ccc2488c40ca6ff1cef21f74ee554cd3607b40b0660a16d43fd4d0 (.build [.int .u32 0,.int .u32 0] [])
def c97:AFn:=⟨2,20,[.cellN 4 2,.tmp 5],yB 6 0x1871c7e9eb742bbcaa72e6211bc c97_1⟩
def c98_1 :=yA 15 0x119b6d0479cb868b96d4ea1a17de9d3c5eb279c5d547ef51d8fd9dccb74821c2d7d5bd2d73a10064597269a708dd3aea0b2a245cd4d0
def c98:AFn:=⟨1,15,[.tmp 2],yB 4 0x477fbd75d41cea2d09c c98_1⟩
def c99_0 :=yG 12 0x10d946994df92139c88212033dbb90a1277d5331866f61388b141dd53fc (.i (-1))
def c99:AFn:=⟨1,12,[.tmp 2],yB 3 532422217884 c99_0⟩
def c100_3 :=yE 40 0x9c3bc9261be2675557730d0bbe654d9993e741903601beeae846f5b4d3bd4717a357046d44899336f35847902b016e0a07696dbb8326b4729224e9c799aab48f5dfc3ca461c82a3442b91feb07396665e33278b99713d221085d15853ef6185945c71a2fde30c1f33e784d6bef2766d2547a0270424bcaba0d04e551c (.slice 4 (.t 18) (some (.c (.i 1))) none none)
def c100_4 :=yB 14 0x5cecbc88d6a62b3659710713b935022cdf5f70a3320399661d948c c100_3
def c100:AFn:=⟨2,40,[.tmp 4],yB 5 4789558881718428 c100_4⟩
def c101_3 :=yM 30 0x2966aae5d9d9a0988a1cf89b834ab2f03099d1e184e62f8afc7936ff774ce6c1cf8f2d779c5e8116a92e74d76808d2c452476c1c405c729c80cba81c0f15c6c8a4615b0680cfbdf99eef11f40ac047b1cdd5c4ba6b7b22416160da94bfcd39104d5d9f5d84e195422394aa26b2dc (.ixA 96 1 none (.t 8) (.t 9)) (.callv (.t 24) [(.t 25),(.t 26)])
def c101:AFn:=⟨2,30,[],yC 2 81082 (.label 0) c101_3⟩
def c102_2 :=yA 14 0xdf08d689ec6bacddcdf1f2fcfb932e75b48239aca5f21d4c56642aa4285fee09b1bd
def c102_3 :=yA 28 0x22bb7926c7ae266f2cc7479b698ee64d3e03c9bd178e29a88a6ca9491cd4e90aa52c6c6e291c421978ce59dbadf3ea83d3d0208a79cd78f65bef8f9d6f102179e12bb92784100ce0987fd613341db1653ce10fd4d0
def c102:AFn:=⟨1,28,[.tmp 2],yC 9 0xc87bb31a1bf76dcc23c6681338f072dec5166a509c c102_2 c102_3⟩
def c103_3 :=yG 57 0x91691a18268a575e288084252e70ed6a3d2b3e560eca4dc23f16aafead2b2025856ecb7083aa382f4fa8c9ba316c3ea461b5acc2424827ebbdca5f4c8dca18a6b456c7ccfcc19f53b106d96b36428075ffe005e645a02e44b9bdc0e1fb966f436217ed67de0fef150590de9ff748c (.int .u8 1)
def c103_5 :=yB 27 0x1f3b5b8c9b1c4229789ff805109cfefa38fb425520504227d47b670e70cd7484af8903ecaee42b606528dc32f674d86d3223001dc01afd7868e6910 c103_3
def c103:AFn:=⟨1,57,[],(c103_5)⟩
def c104_0 :=yE 12 0x7a06da27d437bfc5240a77f6c69429455d39616f5ac (.eq .ptr false (.t 3) (.c (.ptr none)))
def c104:AFn:=⟨1,12,[.tmp 2],yB 3 532422217884 c104_0⟩
def c105_1 :=yM 14 0x207774792315068591a3ed4f97e9883571624906241b4fff63c14c9beb540ba16187a0de8525a3cce910 (.mkSlice 1 1 [.int .u8 0] (.t 10) (.t 10)) (.build [.nils,.i 0,.i 0,.int .u64 0,.int .u64 0,.bool false] [(0,1,(.t 11)),(5,1,(.c (.bool true)))])
def c105:AFn:=⟨1,14,[.tmp 2,.tmp 3],yB 4 0xee3f9ac8fad12c c105_1⟩
def c106_0 :=yA 9 0x10c95981326613d3471ba96dd402e6dfd2f3fc
def c106:AFn:=⟨1,9,[.tmp 2],yB 3 532422217884 c106_0⟩
def c107_1 :=yG 32 0xc0ad02384c3379cb1393f454a2208f2941ad0c261fb23dd574ca616e4d93c64aa7438f87c (.i 1000)
def c107_2 :=yC 19 0x20b8e9a26708968c4a3b5179d2d70ea5d32d5375733ffe2b04a6b8ea28fef824f5cc3714cf7e27afea6051428ce34bcb205d7ec8b33130e4a18b49b48bac1c75a (.label 0) c107_1
def c107:AFn:=⟨2,32,[.tmp 4,.tmp 5],yB 6 0x8fb2b724723b958fed31bc c107_2⟩
def c108_3 :=yA 51 0x611869fbab388dbbf167e78da3d02706268ccd76c7efd09fce5e2061d70a485
def c108_4 :=yF 41 0x4254d1cb2f9f06cb06ececbbb2e1f765c3792fb85724334b9a22a46909b55e90517e1c23b42116a34dcedf911e4e54e6d90f377d1579c1be01f5895331cde0024767125491d7df1de347794685ff23a9471b357b5bea955ce56266895fb475a0245ede5e24a99532f94ec00adf0fbed55fb7ac466bd3a32aa644197042e1d829fd81f4d4d0 (.build [.bool false,.i 0,.i 0] [(0,1,(.c (.bool true))),(1,1,(.t 34)),(2,1,(.t 35))]) c108_3
def c108:AFn:=⟨3,51,[],(c108_4)⟩
def c109_0 :=yG 9 0x10c95981326618acf976fc03927ee6dfd2f3fc (.i 6)
def c109:AFn:=⟨1,9,[.tmp 2],yB 3 532422217884 c109_0⟩
def c110_0 :=yK 13 0x2cd065dbf1f0295b5cf798b6b326c906836acb8bd2de47c946258af63c (.i 6) (.i 7)
def c110:AFn:=⟨1,13,[.tmp 2],yB 3 532422217884 c110_0⟩
def c111_2 :=yM 23 0x136ad150efb704da1d30f78de3c5ee86e8215b86015e7522fe91d4dc0b4d8fb1abc0338320df39de676190b6b53eea5625c1226b3741550eadbce9af88f64f8dc716f72613b2a5eaf00698c854877f5d4f2dc (.ixA 96 3 (some 3) (.t 8) (.t 9)) (.callv (.t 17) [(.t 18)])
def c111:AFn:=⟨2,23,[],(c111_2)⟩
def c112_3 :=yE 48 0x1c4e3b639941ec0bf06b47fdc8cbd70fdec9fdf4e3ee61fe6532e14f50135241f703921311c20220b62aae0d82c7d71fd81ffe7ad1e5c9633cccb641c20f3a5ab66b1ee3a66b1b2a39cff2d6c93e2dca33f23ca198875a0e3d6c8007aefd3804fe3f476c02df4f1c37137c5e4c54d0 (.convInt .u64 (.t 42))
def c112:AFn:=⟨2,48,[.tmp 4],yB 9 0x786d36ca26d351557a2d83fca6df039c9afb909c c112_3⟩
def c113_2 :=yA 53 0x22805950e40bc39fc11a057980dbf592dfb6496215e716b4c52d8f49396defad4e96acd5cd73fdcfe199fbc12766c6cea6c52aff8e75c4039b1eceb4a8f09f964297bdf7775ac
def c113_3 :=yF 31 0x5076c6398e99d0adff6ae8499631dfb802f94db2da1a384d046785720311feee1c23bf7399611a8f943d5c67793c4cebba639b4ba91ec8eae7c661d354cdb1cfbbf06bad4468210ad0 (.eq .ptr true (.t 16) (.c (.ptr none))) c113_2
def c113:AFn:=⟨4,53,[],(c113_3)⟩
def c114_2 :=yA 70 0x2eba7cf2e478bd320c627857f824b0b3e547ea3992a7e62e6b0126c9fba21612b63f4e51c642f658f97477f9b9f3a12104bb1a27f4ff7e1fda31d38fdd26331d44c42e572d4f5044029c3f799872152bdd57bccafa30ffba9bd1e6897ec
def c114_3 :=yB 40 0x1a036f5802b9f1f028a449ef2b032fc29b2dd704f1f8ae5f688b926f0cca9d44806516337f88e2d8f4299e6cd85f2a249ebb6df52eface555a1b65c0a0799cefa47f68db3f57dd22198e37578c4cab718b80fe8cb74e5786f8032819a61f10 c114_2
def c114:AFn:=⟨5,70,[],(c114_3)⟩
def c115_3 :=(uF (fun a b c=>jA 58 0xe39be109433537092b3a7a39fde5cfd406d02cf4f7effa99ff568e399de947c6351696b76142686756c888d7fe6d20412cb7413a13b2cc6b928a80c60367efe29359254c025826f3c5ed19936d46a0c123f48bc71ba9cc05441598196082bd6b0a9d5cd2a64af36f04ae8ad9270ec651356dd93fde0ffa96ea91587d21850 0 3 0 [] [a,b,c] []) _) (.copy 1 (.t 33) (.t 34)) (.slice 1 (.t 32) (some (.t 35)) none none) (.convInt .u64 (.t 51))
def c115_5 :=(uF (fun a b c=>jA 18 0x1d36e5883e6236364ac6dfc4d40f5ddb82cc7adf98f95a381751f3af917440b1eaf568ab3a036af3bb2c6d16604ce6bb748c 0 2 1 [] [a,b] [c]) _) (.minI [(.t 9),(.t 11)]) (.slice 1 (.t 7) none (some (.t 12)) none) c115_3
def c115:AFn:=⟨2,58,[.tmp 4],yB 5 4789558483587228 c115_5⟩
def c116_2 :=yA 43 0x1405424e7f5ae194421867bc62d3f59f9bbdf2b3742dc58da3f1ffee0d60df9133534946010c9d7aad8b0d2a76f0998b4449fd37944c612161ba2ccecb814a2f9eb99ccf6be2021f0e9e0c2229a7bbf5913f03c4a5697cc9762d2121f92c39c0a038b574f2aff40b998301b42718bd47db3beb332d2d7fce030
def c116:AFn:=⟨2,43,[.tmp 4,.tmp 5],yB 6 0x16357295216ca2112c c116_2⟩
def c117_0 :=yA 29 0x56300b845d8eb822324c75321c4dc28db33b6f254860578a487908139135a58c1512c91ceeb7a4c8d90d6ef7fce084a8e8b866c11760a30abec79a93e1c
def c117:AFn:=⟨2,29,[.tmp 4],yB 5 4789558881718428 c117_0⟩
def c118_0 :=yA 8 0xa4dd65cbb174afc4d9c18b5cda20972c8ebf6e30d09c
def c118:AFn:=⟨1,8,[.tmp 2],(c118_0)⟩
def c119_0 :=yE 8 0x97181ddb1483dc310daf60ea68fe0a697dc80c68f073dd106732334e10 (.eq .slice false (.t 3) (.c (.nils)))
def c119:AFn:=⟨1,8,[.tmp 2],yB 3 532661096604 c119_0⟩
def c120_2 :=yA 27 0x17da885166c8ffac6240bc5d8c35b9b1c396e1066c238a58ec2fb4a27bffdf59bde45d0889bba0b94a6f33ad6e82d52fe7f9ea6041fdd21ea49657e45a200694e39190fb4ed546b68c16f325e6f2fcb9576166fbfd4cf52db90
def c120:AFn:=⟨3,27,[.tmp 6],yB 7 0x17d6b927192d09c c120_2⟩
def c121_3 :=yG 73 0x319a2c8106f132786ef84da8931877c4b5e04859d8e082d40b252e3530743a9529f3ce97578bffd815e23b610285b5b75ea07026742a8c4949f04ba0f438c37c573ed1e539c6ed8c5f4b17eddbeeafc46fe3dabc (.int .u8 1)
def c121_4 :=yB 42 0x71d7fbce4716721c36cc3a952dc864e866b078e8c482b1899a059d8dd178b4fae8ad3edfd23fc94de9c720d05e9f11e6973f62f801eede067529a37ca93021a46a92b00a1c6322f3b3402e468b6ff7ef5474ca7149d4b3291caf8c57821bb1bc c121_3
def c121:AFn:=⟨1,73,[],yB 9 0x3f056b5a4b1fafe25cc30367f8aa4e250 c121_4⟩
def c122_2 :=yI 36 0x349129a51fbf74ef702f807cd67979d6855cda5f86ef580d6b46bf056e085aab873de0bfb61fc74f79b32a69a5ff90d6c633f595f51b7a92c0b87a3255a4b0f1893f7e2e3fc7344a461bc5d4814f695424eee08dc8f7fe87fc392299ed467f3603db3ad6c405f5d5ccd20a4dfdb90 (.i 2147483647) (.minI [(.c (.i 1)),(.t 30)])
def c122:AFn:=⟨2,36,[.tmp 4],yB 5 4789558483587228 c122_2⟩
def c123_2 :=yI 19 0x9ee3fa1b608e88707de941dcd1ab47506f3fddb1a70479431a63d42c56c8398b777844a3a12565ee542e0d4630ee55029ae175583b316cbc4cd71eba7c4f5b65c59d36f2b65bbbfcd6707793d52909c (.i (-1)) (.callv (.t 11) [(.t 15)])
def c123:AFn:=⟨2,19,[.tmp 4],(c123_2)⟩
def c124_0 :=yG 9 0x10c9597ec92a6e48afd099e050862de8caf3fc (.i 999)
def c124:AFn:=⟨1,9,[.tmp 2],yB 3 532422217884 c124_0⟩
def c125_0 :=yA 9 0x38583d281518ef9e2e8e9ca7b31282685e147044909c
def c125:AFn:=⟨2,9,[.tmp 4],(c125_0)⟩
def c126_0 :=yA 9 0x38583d281518ef9e2ebfaaa783c45b285e147044909c
def c126:AFn:=⟨2,9,[.tmp 4],(c126_0)⟩
def c127_0 :=yA 6 0xafdb17ccbc8d7c9ed94d9f175fa746daac1e12c
def c127:AFn:=⟨1,6,[.tmp 2],(c127_0)⟩
def c128_3 :=yM 32 0x157c9c723b0ebf13f6891fde93e677957357883f7df072092203184fedbb702a9b8d3f047627110945e002da80b76e07b52bae6a48e6dd212deb1e5a22c1ebf9110d7375cd6f6e47f6824d9990dcd2a9948bc6d90fcda7ba5d8da8cbd17fc120fe250 (.callv (.t 16) [(.c (.str [119]))]) (.callv (.t 24) [(.c (.str [110]))])
def c128_4 :=(uF (fun a b c=>jA 45 0x4c55fec69f2082ac936114949b62baca198fdfc7d93c5e31fa617d9109916d3b8def3db63503dbe3b817ec 1 2 0 [a] [b,c] []) _) (.i 1000) (.callv (.t 32) [(.c (.str [100]))]) (.eq .bool false (.t 33) (.t 37))
def c128:AFn:=⟨1,45,[.tmp 2],yN 5 0x3406d368e5e5807ec2a8817ac1e12c (.mkClo 141 [(.t 1)]) c128_3 c128_4⟩
def c129_0 :=yE 8 0x97181dddec2001f91245434d4fbd7c7f08080c68f073dd106732334e10 (.eq .slice false (.t 3) (.c (.nils)))
def c129:AFn:=⟨1,8,[.tmp 2],yB 3 532661096604 c129_0⟩
def c130_0 :=yE 8 0x97181dda95315253d5d498b368fe0a697dc80c68f073dd106732334e10 (.eq .slice false (.t 3) (.c (.nils)))
def c130:AFn:=⟨1,8,[.tmp 2],yB 3 532661096604 c130_0⟩
def c131_0 :=yA 9 0x10c959813265adf355e2e74d9206735cd2f3fc
def c131:AFn:=⟨1,9,[.tmp 2],yB 3 532422217884 c131_0⟩
def c132_4 :=yA 39 0xac6efdc4efecd0ba3a1942003586ecc244ef22cd20b61ac3c461b490e3ae1e9dc4fbd00e7e818995d00ab89006163c
def c132_5 :=yA 25 0x6b0919664c5aa8a5fd94fc02e4262e0039dd76a7a857feb7a9f342b5ac
def c132_6 :=(uF (fun a b c=>jA 67 0xa9b27f3cfc28622d4f3e82ecf03b6deb665b4f551c36efe50a4082229754bed826a665fb1b11cc8184b65b0d040eb9c112769b5f9b77df95336a2819b77619cb62fdeb8f58e3fdef38598d35f88b6ab08fd8b59de66b72d119384952c165aa2d8ea483987b9277628eb1b1bd86eceeacda29675ed6eab5c1e4aaef092d58a15086030f5d3e79223f4d44a839974510a16c647a2ffff1dde22dd9201e13b674f 1 0 2 [a] [] [b,c]) _) (.i 6) c132_5 c132_4
def c132_7 :=yB 71 0x79befffd45bce9343930c91ffdadbbf7bb83a5f34af90f9a945bc47eef9f7e2713a1d47f0c32b7e4ce10 c132_6
def c132_8 :=yH 13 0x8646f7b208b12ea437d085a7cf52135372ef5f7263c54d0 (.i 120) c132_7
def c132_9 :=yB 10 0x1870de1819428a6612e699292633fed30fc6e94c68d08d8dec93231b1bc c132_8
def c132:AFn:=⟨2,71,[.tmp 4,.tmp 5],(c132_9)⟩
def c133:AFn:=⟨1,4,[.tmp 2],yI 4 0x3e74bc8c76a4aa590df662612c (.nilfn) (.mkClo 144 [(.t 1)])⟩
def c134_1 :=yA 13 0x13cd27dc47ea229bdd421dc2dc62c691ed1c6f69c6fca985f5736fab22f7b00a933f1b62b16111b8309d9f8481759fb3adea2fff6c36bb1712c
def c134:AFn:=⟨1,13,[.tmp 2],yB 3 532183339164 c134_1⟩
def c135_2 :=yE 25 0x1c596d4d17ec5dd80b2427045ef802d27d324e96db956b58eb464e5efcc75b3e30a91ae8ad7459c8fa211aeb0eece2ac520e18986fa59ec651b67a7a938c8b83cbe0acca595d063c763b16250 (.minI [(.t 7),(.t 9)])
def c135:AFn:=⟨2,25,[.tmp 4],yB 6 0xd6f0a7a432590d786760109c c135_2⟩
def c136_0 :=yI 8 0x1290ec49185ab4ce522a1666af3a2065a1531f24c (.nilfn) (.mkClo 146 [(.t 5),(.t 4),(.t 3)])
def c136:AFn:=⟨3,8,[.tmp 6],(c136_0)⟩
def c137_1 :=yE 12 0x3e74f9865516d1e62928e0bd51a3112d9242c33c28828585ad2b38138350e9bce32b68722f004f1a2ae0b68785caf109c (.eq .ptr false (.t 6) (.c (.ptr none)))
def c137:AFn:=⟨2,12,[.tmp 4],(c137_1)⟩
def c138_2 :=yA 18 0xfc007e65626864a21402d84ffcb7d8f33783b0320bb93f540d7ee6de08179d20d89e6e3afa24f71fc9d4745346dd6a48d934e5b0490d18384e5376bab406e6b78b7a6273d09c
def c138:AFn:=⟨1,18,[.tmp 2],(c138_2)⟩
def c139_2 :=yI 19 0x27b8fe86d823a21c1f7a5077346ad1d41bcff76c69c11e50c698f50cef1ace0ed621dab6bb6be5b0641e11f7debb919809b5a603316cbc4cd71eba7c4f5b65c59d36f2b65bbbfcd6707793d52909c (.i (-1)) (.callv (.t 11) [(.t 15)])
def c139:AFn:=⟨2,19,[.tmp 4],(c139_2)⟩
def c140_2 :=yI 19 0x9ee3fa1b608e88707de941dcd1ab47506f3fddb1a70479431a63d42c56c8398b777844a3a12565ee542e0d4630ee55029ae175583b316cbc4cd71eba7c4f5b65c59d36f2b65bbbfcd6707793d52909c (.i (-1)) (.callv (.t 11) [(.t 15)])
def c140:AFn:=⟨2,19,[.tmp 4],(c140_2)⟩
def c141_0 :=yA 9 0x25c6d299897f2a63bcf2162bfe242578723d78808c703a709c
def c141:AFn:=⟨2,9,[.tmp 3],(c141_0)⟩
def c142_0 :=yA 9 0x38583d281518ef9e30481aa6095321285e147044909c
def c142:AFn:=⟨2,9,[.tmp 4],(c142_0)⟩
def c143_3 :=(uF (fun a b c d e f=>jA 15 0x10cfe5ce4de74b0056b67386b8492d57a82c8a98fe86f9ed712ae73068e026c391510ce1794dbde1e450f0ab01050b0a3ba7b68abece95ac5c6318d7ae07f8cfabe3f41f6e39589297b28da3ed6886cb785188b219ef7419b6d775757fd2b58e15c25e8bc4d4750 6 0 0 [a,b,c,d,e,f] [] []) _) (.str [119,100]) (.i 6) (.str [119,110]) (.str [119]) (.i 7) (.str [110])
def c143:AFn:=⟨1,15,[.tmp 2],yB 3 535408201884 c143_3⟩
def c144_2 :=yM 20 0x1dd18fdd07632213b64d66d78c82e824ec891c7c3c6bc83317cf9b50408326f4db668c84976a4f404bc1177b6feaa796efd3038eaec28fa8bc0a78a2a603940fa137cbab86925a6509c (.build [.i 0,.i 0] [(0,1,(.t 14)),(1,1,(.t 15))]) (.callv (.t 13) [(.t 16)])
def c144:AFn:=⟨2,20,[],yC 6 0x28408e462d438fd990403a (.label 0) c144_2⟩
def c145_1 :=yA 15 0x86f97b8dc13c8db86a1e6666b9e775c33896aae3778993f0b1188c604776689fbe97ebd556547e65b90
def c145:AFn:=⟨2,15,[.tmp 4],yB 5 4789558483587228 c145_1⟩
def c146_2 :=(uF (fun a b c=>jA 43 0xa5264c53cef9c9afb351e5bc07fc588be4bbe0a9fddde840513f80d21ac25b41bc07848b17a9b9b0a2e3282133af682bc76a966f72600cc88ed78ada167bb1e523b97622a6a35af3a2ee10c958d255d9af2bbd24629659178086c8c4b0460228d004da1fbac66f48c 0 3 0 [] [a,b,c] []) _) (.minI [(.t 23),(.t 28)]) (.slice 1 (.t 19) (some (.t 20)) (some (.t 29)) none) (.callv (.t 31) [(.t 32)])
def c146:AFn:=⟨4,43,[],yC 9 0xab6e8906737b7b170117b38654191c2213c3a (.label 0) c146_2⟩
def c147_0 :=yA 9 0x10c959813265b2d157f935baf252e6dfd2f3fc
def c147:AFn:=⟨1,9,[.tmp 2],yB 3 532422217884 c147_0⟩
def c148:AFn:=⟨2,8,[.tmp 4],yA 8 0x4ca912ac4b655e4106b51348b54335932d109c⟩
def c149_4 :=(uF (fun a b c d=>jA 143 0xfe791c72295809e6d973750fbd7d39bc68dadafc6d985b3e55cfdb09fe342b7ddb743b4b43bdd650fe72aeb296a713a012d3ed5ada378812976f025753bdcd3418de7237dfb6a9a3c8f4bbffdf008315cb25d8bfbb0a68b9770b94db53af1ed587c 2 2 0 [a,b] [c,d] []) _) (.int .u64 4) (.i (-1)) .fail (.sliceS (.t 133) (some (.t 134)) none)
def c149_6 :=(uF (fun a b c d=>jA 118 0x1809d5d5ede0a5f82afeafe9e66e87c6a53e8b1e93a3f9431981e3040486cbbd567b8f290c46025bed3622bc9aba0f5df4c1f3924c2cca52b60532144d046aaf46271bf4ebac87a8b8c8c351cc227effad9804f46fc1a953b24944f4ba8ffb3597f1171bc 1 2 1 [a] [b,c] [d]) _) (.i (-1)) .fail (.sliceS (.t 108) (some (.t 109)) none) c149_4
def c149_10 :=(uF (fun a b c d e f=>jA 95 0xdbe7fe5ed6023bbc3024229365023a080bb8b2c9a8c85002ed4a92ea6d58f9c300e28e28224114d04ecb4c43002b242d71774ca7a9fbf7ddef87ee05eac0cce14ef7048e1a3f74d31e91b59afe682bd5ddeadd710238489026fdc04c74408c4858fabadd7496d8ba63bbc422f42b0ea941298ac9aea50ae20cfb9ad503cb12f25fd3d22e0e250 1 4 1 [a] [b,c,d,e] [f]) _) (.i (-1)) (.ixStr (.t 60) (.t 61)) (.sliceS (.t 65) (some (.t 67)) (some (.t 68))) (.ixStr (.t 78) (.t 80)) (.sliceS (.t 85) (some (.t 86)) (some (.t 89))) c149_6
def c149_16 :=(uF (fun a b c d e=>jA 48 0xcc8aa671f3ce024eb502f82c1d3c624f7b19b48d74d505c451f5251be170856ec633e9c53f724241b32c47225d730c5d63305edbc1c7278d2c588444ee9be8b76667f6fb32f541ac40dfdc74cad13555d3d7ed473d323fc2cf0eaa310f333a414695ebd4672096b73a53ea80c6d79be8c216ed9798c52cc475f5485c2cb48c 1 4 0 [a] [b,c,d,e] []) _) (.i (-1)) (.ixStr (.t 28) (.c (.i 0))) (.lenS (.t 33)) .fail (.lenS (.t 41))
def c149_17 :=(uF (fun a b c d e=>jA 60 0x13c8339c3e0ef64819d607223c4919d20cbd18fa694a8522a0a1d45329737fff6b5acf03eea4f24687fe07476897c38dc3ee332fc117a75b05ac514086f3a60622f10efc35e91bc 1 3 1 [a] [b,c,d] [e]) _) (.i (-1)) (.ixStr (.t 48) (.c (.i 0))) (.ixStr (.t 50) (.c (.i 1))) (.lenS (.t 52)) c149_10
def c149:AFn:=⟨2,143,[.tmp 4],yN 16 0x2a9ec81d7ed33e3c0484c9b3aeb2631109c (.lenS (.t 14)) c149_16 c149_17⟩
def c150:AFn:=⟨2,8,[.tmp 4],yA 8 0x4ca912ac4b660a84729196c8b54335932d109c⟩
def c176_0 :=yA 16 0x9bb1682da5d07beb99a1f5d72457fa13e1d36a9d54ccb2158c115851c42b31c279e91dd9a04c86fa32b718302251878f5a0d336cc
def c176:AFn:=⟨2,16,[.tmp 4],yB 5 0x59cba388ab2e3e312c c176_0⟩
def c177_4 :=yM 60 0x27c368e2b9aab1f6b21ed7412eebb80a0d7441bcdd24d48ab873b3a09d370252f7aec3cb3c4b23e69e87d0b174054a44552924269fe672e1ed57ad4074a0fb27f1d68469dc23b99d8482a35b90 (.lookup (.leaf (.int .i64)) (.i 0) false (.t 54) (.t 55)) (.mput (.leaf (.int .i64)) (.t 54) (.t 55) (.t 57))
def c177_5 :=(uF (fun a b c=>jA 47 0x36518cb5395ccf59e923bef0ac46b729fbd528c7b918c303b63586dee82d69938d717a66cae3dbe41594471b9c0f7ef24607b23e61d14a56f525edbb8b321a46db90 0 2 1 [] [a,b] [c]) _) (.lookup (.leaf (.int .i64)) (.i 0) false (.t 42) (.t 43)) (.mput (.leaf (.int .i64)) (.t 42) (.t 43) (.t 45)) c177_4
def c177_6 :=yJ 35 0x1853ccfbebe4b944d125f22b0344d282408f2429c001fc85de1bc97775054e10 (.map none) .mkMap c177_5
def c177_7 :=yB 31 0xb84d3be687e80d3a988a188352ae9e4a783aac3be30753cc867c8bd6e62ff45b46a4b716b8d2a680e61a784e1cb503d0430e47a7213ee8bf5de72593c1fa868b6c42759d926898142bbff54161dad7907f8e00181a534e438 c177_6
def c177:AFn:=⟨2,60,[.tmp 4,.tmp 5],yH 6 0x8ca37d0206337c07e011bc (.map none) c177_7⟩
def c178_1 :=yA 29 0x1c687802fc850e60be1135960845c70f34935396968b4a69c3988d9509fa97c222e48b09f67efb25876f8a1f883e2ae0bdd7873dc2c7a7513c9486ab1b7dbd689f0c6c72216ce590c
def c178:AFn:=⟨4,29,[.tmp 8],yB 9 0xad17864eef10e2f1db6c131bc c178_1⟩
def c179_0 :=yA 10 0x6673dc282223f3196e537f21bc9491b48b305ef36c
def c179:AFn:=⟨2,10,[.tmp 4],yB 5 0x5ec5c974dd767a303531bc c179_0⟩
def c180_4 :=yA 73 0x20fe17706e574f77b1603fe7a6fc547fb5445668256ff2ee7e3aec59a5daf7a7401650b29bb2804b3fc
def c180_10 :=yB 70 0x13e653137d5cb90cb4f71d67f6c1ede6aff13abed75d29932cd0bfd8bd46855a29ff8a2787d4d9797160d7e1f39201c2447189dcc9edaf12e4ef4524cc06ba2ad4f0f8b15acd6816b2c9d835797021c09095b99ed1ba47bdc4c14bad90b83fc87bcc2e4dba096890dc4f16f3a21c1bd58753a5dda0645fbb29e5785c9464961faa7cc6e10752dd6cbd3b0bf46d8c25903b90b1dcbbd92e59489597bd97ae865912dc818532e866cf925ccdb90 c180_4
def c180_11 :=yF 36 0x77d59dfffe46e963c85223cdf6a11a6095a604b873d84fa4a5da672a940484a4bed002f933bd5a3f39d5f295955e4b7556171a0b254175025410c326cf1da436d00f17e821e610b2175bf28d29973ef85a51538cb883dfac64bb50b44805ac922c38ccbc35467d3272dc4c9419eead5740b2e06c219929ad8317fed182355e40332657f509d0d7b12994ea9f45da4bc1a2804473aa4b52681e172cb322792c4ca5e23bb6ff1eda62a9bdd93ed6df7676d3c264809b7cab7e93fc (.eq .ptr false (.t 15) (.c (.ptr none))) c180_10
def c180:AFn:=⟨4,73,[.cellN 8 2,.cellN 9 2,.cell1 10,.tmp 11],(c180_11)⟩
def c181_0 :=yA 6 0xafdb17cc829f4d394b3794ffcf6883416f1b2ce12c
def c181:AFn:=⟨1,6,[.tmp 2],(c181_0)⟩
def c182_0 :=yE 16 0x32188e6ef92aed7e713a8ed08f5aec6a31040bfab9bb2feedaeb24d9b416d31f7e68b9b2bf3536cc (.build [.int .u32 0,.int .u32 0] [(0,1,(.t 9)),(1,1,(.t 14))])
def c182:AFn:=⟨2,16,[.cellN 4 2],yB 5 0x104763ab825402980a4303531bc c182_0⟩
def c183_1 :=yA 15 0x10cf3e8f147277e6a06115b15f3500b916f37cafd8a55542995aabe3e83149b20419aab26de79711b667543f58f5f0567bdae649d4d0
def c183:AFn:=⟨1,15,[.tmp 2],yB 3 0x2cda1dfb2ce12c c183_1⟩
def c184_2 :=yF 23 0x7f025f6bd5b0ce306fba123960152faf3933ee08e1df7062158d9f4c2da0c1a30f6617e4b44a93c2d009c472c0d200ad9559963c785f43cfec5247277ff812f5f422b45c9c9daa2dac9bf0ae7e6bed828cae763a6dfb24c (.field 0 none (.t 19)) (.label 0)
def c184:AFn:=⟨4,23,[.tmp 8],(c184_2)⟩
def c185_0 :=yI 8 0x1290ec49185ab4ce522a1666b2bf24f86ad31f24c (.nilfn) (.mkClo 190 [(.t 4),(.t 5),(.t 3)])
def c185:AFn:=⟨3,8,[.tmp 6],(c185_0)⟩
def c186_1 :=yA 29 0x10dd8a95a64b6337d9b53eeab38bac2d1af1096b51ecc284a3bcf9a76c6e32db6664bbe63cdd62d289053966c5c14a3a695c48d560723c03a3ee26c0cd0f4d06ec0905de91f2a754adbc46ec79a9123424073fbe78c2f68410
def c186:AFn:=⟨1,29,[.tmp 2],yB 4 0x12da2e749182455db21612c c186_1⟩
def c187:AFn:=⟨1,5,[.tmp 2],yA 5 0x161cd6554fc53b7ad1d807d5ca64509c⟩
def c188:AFn:=⟨1,4,[.tmp 2],yI 4 0x3e74bc8c76a4aa590df72ce12c (.nilfn) (.mkClo 194 [(.t 1)])⟩
def c189_1 :=(uF (fun a b c=>jA 19 0x188a2bb6bb2044fca01ac1f435430b3fc 0 3 0 [] [a,b,c] []) _) (.convInt .u8 (.t 14)) (.ixStr (.c (.str [0,1,2,2,3,3,3,3,4,4,4,4,4,4,4,4,5,5,5,5,5,5,5,5,5,5,5,5,5,5,5,5,6,6,6,6,6,6,6,6,6,6,6,6,6,6,6,6,6,6,6,6,6,6,6,6,6,6,6,6,6,6,6,6,7,7,7,7,7,7,7,7,7,7,7,7,7,7,7,7,7,7,7,7,7,7,7,7,7,7,7,7,7,7,7,7,7,7,7,7,7,7,7,7,7,7,7,7,7,7,7,7,7,7,7,7,7,7,7,7,7,7,7,7,7,7,7,7,8,8,8,8,8,8,8,8,8,8,8,8,8,8,8,8,8,8,8,8,8,8,8,8,8,8,8,8,8,8,8,8,8,8,8,8,8,8,8,8,8,8,8,8,8,8,8,8,8,8,8,8,8,8,8,8,8,8,8,8,8,8,8,8,8,8,8,8,8,8,8,8,8,8,8,8,8,8,8,8,8,8,8,8,8,8,8,8,8,8,8,8,8,8,8,8,8,8,8,8,8,8,8,8,8,8,8,8,8,8,8,8,8,8,8,8,8,8,8,8,8,8,8,8,8,8,8,8])) (.t 15)) (.convInt .i64 (.t 16))
def c189_2 :=(uF (fun a b c d e=>jA 13 0x55efd8b1edfcee3333872d9d73e275bbda447e8a8913ba5f356ba624849b1ca259027d7c42cd6c54609cbddc905e2c29c3077ada34e10 4 0 1 [a,b,c,d] [] [e]) _) (.int .u32 65536) (.int .u64 16) (.int .u32 256) (.int .u64 8) c189_1
def c189:AFn:=⟨1,19,[.tmp 2],yB 3 0xa53036736509c c189_2⟩
def c190_2 :=yE 35 0x4c623f367525f53e049d2e5d5e28a6d395dfdcbf4470437b9d18f300a321114004fbdcc784fb681bb506c4ba6c89d3709d6ba9055abad91ad02a3276a43466e5daa5906ae4500a2b6522b76ff57b1d291c775b73102dc108c1f9c4cf7679b5891e0c793e70c0805fe9bfce0c0 (.callv (.t 29) [(.t 30),(.t 31)])
def c190_3 :=yB 17 0xa4bea85445e0cd623f0d190b10c7f7b2cf7eaa8a7a3fc908bc821dbbb329e181dc329f3ab657472027fc70beaf107f29bf48c c190_2
def c190:AFn:=⟨4,35,[],(c190_3)⟩
def c191_1 :=yA 16 0x2ce6030e8ea8c74b70fffc49b9a8d7fd325e3fbdb567216cb90384d9b5664c83fbe7bd9f6554a9f23a57199b01ee7ba71e87c0896239e0627ce10
def c191:AFn:=⟨2,16,[.cellN 4 2],yB 5 0x104763ab82540297c78513531bc c191_1⟩
def c192_0 :=yA 18 0x343cd2cc69dcb4c20f70477b362b52ebd86da48f7a1fe488ee915c0be82bf52414b57b2340737ec
def c192:AFn:=⟨2,18,[.tmp 4],yB 5 0x59cba388ab2655312c c192_0⟩
def c193_1 :=yA 13 0x378fbd8c87ae5d63eda6ea4bb54394893415caaa81427aa8f640be48af07667d654cd0e19d5f534550177a728c204e9f673b12c
def c193:AFn:=⟨2,13,[.tmp 4],(c193_1)⟩
def c194_1 :=yE 17 0x20197304539dcf13cf7b7d2ee57ecd8c07c03b65eaee1653bcbd74f99b4604025a80e5c72fa11d3aa4ad6d5f13d638107e7e10540c43d2fec709c (.callv (.t 11) [(.t 12)])
def c194:AFn:=⟨2,17,[],yB 5 0x131b60591b69a41909c c194_1⟩
def c195_1 :=yA 17 0x104620ca25634dc9c3fc31752185db39e2fc57b2f3cabce8550f08f9ff2da4f5807e620bc2f15c36e2cd8f80733c52585d874390a8c99774dd1306963efb12c
def c195:AFn:=⟨2,17,[.cellN 4 2],(c195_1)⟩
def c196:AFn:=⟨2,8,[.tmp 4],yA 8 0x4ca912ac4b6bf66dd2fa088ef74335b925109c⟩
def c197_4 :=yI 64 0x194980ba1796a8726c8753ed66a5030247d12fd0c2153fd9cc656ac22c080e22bb1503a9520fec9672f36ecfd6140bfa8fbf7aaea328c60d451093d896b353e9674073cae810885b452159d7fe3a5de20ca74d339c589048f614b6ab73561f0d52544b331ec81223cdbc4d67a54dc031106f86d185de78b689577f5f040de98b77e0bb9ef9843dbb0b94edaf1be7684fe2b960369634643efd0 (.map none) (.mput (.leaf (.int .i64)) (.t 57) (.t 62) (.t 63))
def c197_8 :=yF 67 0xe8cb59428f4f74d74c112920ac3da99207264d5b7a72dcf772c25dcc233605b0f789c00eac7c61eb57092728d27f34ab08bd3b1845ba455105ef858bb92c34293e0916ab7eccddc37697c6425d6c42d00510ee30d149595a022eb93b8d3d4c9b45be19c6b203cfe98fe49c22b92d242cabd51197b57d7895ac .mkMap c197_4
def c197:AFn:=⟨2,67,[.tmp 4,.tmp 5],yH 6 0x1635729522d097112c (.map none) c197_8⟩
def c198_2 :=yB 18 0x15164320207d5e69c65ae05844089960a6e5d1f434bbe336bfd551211191cea311204a70d30d7e141d221c41f0e4f96c012b3d902230a2073e3dcaee9b7b978370bd8e1780a0c492f163796cd3c7114304aca (.label 0)
def c198:AFn:=⟨2,18,[.tmp 4],yB 5 4789558881718428 c198_2⟩
def c199_3 :=yE 31 0x98f973949ff52f901552e6430b4ff6df6b0a8495bd20ed25da27828386bfbbdd2dba743548700dddf528b2771b1383667e1ebf3e59ba41cf0098cf6045c0e1a0b978cb0aa4fcf92d465a62cfd2ed986f51241c2616cfedd75ba59554a841adacefc301d2ad715feff1c627a8014ab34c50a5b895b0a62588ce036eef567d52bf5b90 (.minI [(.t 26),(.c (.i 1))])
def c199:AFn:=⟨2,31,[.tmp 4,.tmp 5,.tmp 6],yB 7 0x1c2e621d6ba304737e11bc c199_3⟩
def c200_2 :=yK 23 0xc4ec2ffaf3d612fcabdee395cae0cc470ba714838ea0314b000278e1170c43f58cae3fb8ed363a81d626f6fbdc393c72d5f65005e412e369d771f2f9259c9eb405824c7b46de5d128b99e48c36f58ea6a210fd69e5bc6ff183154d0 (.i 25) (.i 28)
def c200:AFn:=⟨2,23,[.tmp 4,.tmp 5],yB 6 0x163572952108f7112c c200_2⟩
def c201_3 :=yE 23 0xaf20e8149765065d10476d7c174910e9e43693a373d7d5f3d0b9e288cd80131b4db472ba309fc5195c3f1c248edd31e654c522c9f822e79ae345b3e658076d4486137f267a9e31d8ba37ddd399e8be5f5c7c96fe378746527bed9c583bf71f238eb589fc83128f89a01d8bbcbac46f814e10 (.eq .ptr false (.t 7) (.c (.ptr none)))
def c201:AFn:=⟨2,23,[.tmp 4],yB 5 4789558483587228 c201_3⟩
def c202:AFn:=⟨2,6,[.tmp 4],yI 6 0xe5fb396e23889bd7ad9a4fec438fe311bc (.nilfn) (.mkClo 203 [(.t 3),(.t 2)])⟩
def c203_2 :=yE 19 0x89d387cd7e0c4818c96c762018b0c59fc30af91642d6d61b54fc6954cf1090feebda15a3d390ac297877a60d6358ca9783c226bc0c0ad7cc0686624d63cb45b62040bd5307fa075c411bc (.callv (.t 12) [(.t 15)])
def c203:AFn:=⟨3,19,[],(c203_2)⟩
def c204_5 :=yA 42 0x51430d081e583798444191987a1f321b8cd27ea1445d84aaadb3e5d0c65ab4397df3797ee7ae26b3a80af05f5ee12d43c2468aa14c10d07a24a5b90d46c9c864e3c36bb84db019a6c35d47ec6573667611070d349183cbe15c5d22976c8904acbf8ca2502a2750766926f5df449cc4131f658156c83c7d28e6d20230d4885d3e52287a4e26603dc2cbdf3309810505a7cc78256260fd16600d419c30459a94870270
def c204_6 :=yB 43 0x4a336442c7ffbafb318ab14b3d1f4051d483b446b26a4ede7e816d98884ca1beaca9cb1c499c1736c c204_5
def c204:AFn:=⟨2,43,[.tmp 4],yB 5 0x5bbfb66e8e743f512c c204_6⟩
def prog:Prog := { fns:=[(3,c3),(5,c5),(6,c6),(7,c7),(8,c8),(9,c9),(10,c10),(11,c11),(12,c12),(13,c13),(14,c14),(15,c15),(16,c16),(17,c17),(18,c18),(19,c19),(20,c20),(21,c21),(22,c22),(23,c23),(24,c24),(25,c25),(26,c26),(27,c27),(28,c28),(29,c29),(30,c30),(31,c31),(32,c32),(33,c33),(34,c34),(35,c35),(36,c36),(37,c37),(38,c38),(39,c39),(40,c40),(41,c41),(42,c42),(43,c43),(44,c44),(45,c45),(46,c46),(47,c47),(48,c48),(49,c49),(50,c50),(51,c51),(52,c52),(53,c53),(54,c54),(55,c55),(56,c56),(57,c57),(58,c58),(59,c59),(60,c60),(61,c61),(62,c62),(63,c63),(64,c64),(65,c65),(66,c66),(67,c67),(68,c68),(69,c69),(70,c70),(71,c71),(72,c72),(73,c73),(74,c74),(75,c75),(76,c76),(77,c77),(78,c78),(79,c79),(80,c80),(81,c81),(82,c82),(83,c83),(84,c84),(85,c85),(86,c86),(87,c87),(88,c88),(89,c89),(90,c90),(91,c91),(92,c92),(93,c93),(94,c94),(95,c95),(96,c96),(97,c97),(98,c98),(99,c99),(100,c100),(101,c101),(102,c102),(103,c103),(104,c104),(105,c105),(106,c106),(107,c107),(108,c108),(109,c109),(110,c110),(111,c111),(112,c112),(113,c113),(114,c114),(115,c115),(116,c116),(117,c117),(118,c118),(119,c119),(120,c120),(121,c121),(122,c122),(123,c123),(124,c124),(125,c125),(126,c126),(127,c127),(128,c128),(129,c129),(130,c130),(131,c131),(132,c132),(133,c133),(134,c134),(135,c135),(136,c136),(137,c137),(138,c138),(139,c139),(140,c140),(141,c141),(142,c142),(143,c143),(144,c144),(145,c145),(146,c146),(147,c147),(148,c148),(149,c149),(150,c150),(176,c176),(177,c177),(178,c178),(179,c179),(180,c180),(181,c181),(182,c182),(183,c183),(184,c184),(185,c185),(186,c186),(187,c187),(188,c188),(189,c189),(190,c190),(191,c191),(192,c192),(193,c193),(194,c194),(195,c195),(196,c196),(197,c197),(198,c198),(199,c199),(200,c200),(201,c201),(202,c202),(203,c203),(204,c204)],prims:=[(154,jc0)] }
theorem primsF:ji8 prog:=ji8.of (List.forall_mem_cons.2 ⟨Am.jjZ,fun _ h=>nomatch h⟩)
def cx:Cx:=⟨[(3,⟨.int .i64,1,8,(some (.i 0)),false⟩),(4,⟨.bool,1,1,(some (.bool false)),false⟩),(5,⟨.int .u8,1,1,(some (.int .u8 0)),false⟩),(9,⟨.str,1,16,(some (.str [])),false⟩),(22,⟨.slice 34,1,24,(some (.nils)),false⟩),(23,⟨.slice 70,1,24,(some (.nils)),false⟩),(24,⟨.slice 47,1,24,(some (.nils)),false⟩),(31,⟨.int .u64,1,8,(some (.int .u64 0)),false⟩),(32,⟨.slice 5,1,24,(some (.nils)),false⟩),(34,⟨.struct [(0,3),(1,3),(2,3),(3,31),(4,32)],5,56,(some (.agg [.i 0,.i 0,.i 0,.int .u64 0,.nils])),false⟩),(35,⟨.ptr 98,1,8,(some (.ptr none)),false⟩),(36,⟨.int .i64,1,8,(some (.i 0)),false⟩),(39,⟨.ptr 101,1,8,(some (.ptr none)),false⟩),(42,⟨.ptr 132,1,8,(some (.ptr none)),false⟩),(43,⟨.ptr 83,1,8,(some (.ptr none)),false⟩),(45,⟨.struct [(0,42),(1,43)],2,16,(some (.agg [.ptr none,.ptr none])),false⟩),(47,⟨.struct [(0,3),(1,3),(2,3),(3,31),(4,4),(5,34)],10,96,(some (.agg [.i 0,.i 0,.i 0,.int .u64 0,.bool false,.i 0,.i 0,.i 0,.int .u64 0,.nils])),false⟩),(50,⟨.slice 59,1,24,(some (.nils)),false⟩),(51,⟨.slice 162,1,24,(some (.nils)),false⟩),(55,⟨.struct [(0,4),(1,4),(2,4),(3,4),(4,4),(5,31),(6,31)],7,24,(some (.agg [.bool false,.bool false,.bool false,.bool false,.bool false,.int .u64 0,.int .u64 0])),false⟩),(59,⟨.struct [(0,3),(1,3)],2,16,(some (.agg [.i 0,.i 0])),true⟩),(66,⟨.struct [(0,3),(1,3),(2,3),(3,32)],4,48,(some (.agg [.i 0,.i 0,.i 0,.nils])),false⟩),(67,⟨.slice 66,1,24,(some (.nils)),false⟩),(68,⟨.slice 3,1,24,(some (.nils)),false⟩),(70,⟨.struct [(0,31),(1,4),(2,68),(3,67)],4,64,(some (.agg [.int .u64 0,.bool false,.nils,.nils])),false⟩),(79,⟨.slice 142,1,24,(some (.nils)),false⟩),(80,⟨.array 32 4,32,32,(some (.agg (List.replicate 32 (.bool false:V)))),false⟩),(81,⟨.array 32 3,32,256,(some (.agg (List.replicate 32 (.i 0:V)))),false⟩),(83,⟨.struct [(0,79),(1,31),(2,80),(34,81),(66,3),(67,3)],68,336,(some (.agg ([.nils,.int .u64 0]++List.replicate 32 (.bool false:V)++List.replicate 34 (.i 0:V)))),false⟩),(98,⟨.struct [(0,23),(1,68)],2,48,(some (.agg [.nils,.nils])),false⟩),(99,⟨.array 96 3,96,768,(some (.agg (List.replicate 96 (.i 0:V)))),false⟩),(101,⟨.struct [(0,42),(1,3),(2,99),(98,3)],99,792,(some (.agg ([.ptr none]++List.replicate 98 (.i 0:V)))),false⟩),(102,⟨.func,1,8,(some (.nilfn)),false⟩),(104,⟨.iface,1,16,(some (.nili)),false⟩),(108,⟨.map 3 3,1,8,(some (.map none)),false⟩),(116,⟨.struct [(0,4),(1,3),(2,3)],3,24,(some (.agg [.bool false,.i 0,.i 0])),false⟩),(117,⟨.ptr 125,1,8,(some (.ptr none)),false⟩),(120,⟨.ptr 181,1,8,(some (.ptr none)),false⟩),(122,⟨.struct [(0,3),(1,3),(2,120),(3,4),(4,4),(5,31),(6,31)],7,48,(some (.agg [.i 0,.i 0,.ptr none,.bool false,.bool false,.int .u64 0,.int .u64 0])),false⟩),(123,⟨.array 2 122,14,96,(some (.agg [.i 0,.i 0,.ptr none,.bool false,.bool false,.int .u64 0,.int .u64 0,.i 0,.i 0,.ptr none,.bool false,.bool false,.int .u64 0,.int .u64 0])),false⟩),(125,⟨.struct [(0,123),(14,4),(15,3),(16,68)],17,136,(some (.agg [.i 0,.i 0,.ptr none,.bool false,.bool false,.int .u64 0,.int .u64 0,.i 0,.i 0,.ptr none,.bool false,.bool false,.int .u64 0,.int .u64 0,.bool false,.i 0,.nils])),false⟩),(127,⟨.ptr 183,1,8,(some (.ptr none)),false⟩),(129,⟨.array 96 116,288,2304,(some (.agg ((List.replicate 96 ([.bool false,.i 0,.i 0]:List V)).flatten))),false⟩),(130,⟨.slice 117,1,24,(some (.nils)),false⟩),(132,⟨.struct [(0,129),(288,130),(289,127),(290,31),(291,116)],294,2368,(some (.agg ((List.replicate 96 ([.bool false,.i 0,.i 0]:List V)).flatten++[.nils,.ptr none,.int .u64 0,.bool false,.i 0,.i 0]))),false⟩),(139,⟨.struct [(0,3),(1,3),(2,4),(3,4),(4,32),(5,4),(6,31),(7,31)],8,72,(some (.agg [.i 0,.i 0,.bool false,.bool false,.nils,.bool false,.int .u64 0,.int .u64 0])),false⟩),(140,⟨.array 2 139,16,144,(some (.agg [.i 0,.i 0,.bool false,.bool false,.nils,.bool false,.int .u64 0,.int .u64 0,.i 0,.i 0,.bool false,.bool false,.nils,.bool false,.int .u64 0,.int .u64 0])),false⟩),(142,⟨.struct [(0,140),(16,3),(17,4),(18,3),(19,68)],20,192,(some (.agg [.i 0,.i 0,.bool false,.bool false,.nils,.bool false,.int .u64 0,.int .u64 0,.i 0,.i 0,.bool false,.bool false,.nils,.bool false,.int .u64 0,.int .u64 0,.i 0,.bool false,.i 0,.nils])),false⟩),(162,⟨.struct [(0,3),(1,3)],2,16,(some (.agg [.i 0,.i 0])),true⟩),(168,⟨.int .u32,1,4,(some (.int .u32 0)),false⟩),(170,⟨.array 2 168,2,8,(some (.agg [.int .u32 0,.int .u32 0])),false⟩),(172,⟨.struct [(0,170),(2,170)],4,16,(some (.agg [.int .u32 0,.int .u32 0,.int .u32 0,.int .u32 0])),false⟩),(173,⟨.slice 178,1,24,(some (.nils)),false⟩),(174,⟨.slice 178,1,24,(some (.nils)),false⟩),(178,⟨.struct [(0,3),(1,3)],2,16,(some (.agg [.i 0,.i 0])),false⟩),(181,⟨.struct [(0,32),(1,3),(2,3),(3,31),(4,31),(5,4)],6,64,(some (.agg [.nils,.i 0,.i 0,.int .u64 0,.int .u64 0,.bool false])),false⟩),(183,⟨.struct [(0,80),(32,81)],64,288,(some (.agg (List.replicate 32 (.bool false:V)++List.replicate 32 (.i 0:V)))),false⟩)],[]⟩
end Am.Sigs
