/- Our own library, part 14. -/
import Derived.Test.YtccoogikjelcbaaGreatDoorM13
set_option maxHeartbeats 8000000
set_option maxRecDepth 800
set_option linter.all false
set_option maxRecDepth 100000
namespace Am.Sigs
open Am Go
abbrev uF {α:Sort _} (f g:α) (_:f=g:=by (repeat (apply funext;intro));conv=>{lhs;cbv}):α:=g
section
variable (S a b c:Nat) (vs:List V) (is:List I) (ps:List AC)
def rV (N:Nat):V × Nat:=match N%33 with
 | 32=>(vs.getD (N/33%a) .nilfn,N/33/a)
 | n=>(([.i 0,.i 1,.bool false,.bool true,.nils,.i 2,.i 3,.ptr none,.i 110,.i 111,.i 64,.i 31,.i 32,.i 113,.i 115,.i 116,.i 4,.i 95,.i 112,.int .u64 1,.i 96,.i 5,.i 8,.i 16,.int .u64 0,.int .u32 0,.int .u8 0,.str [],.i 10,.i 100,.int .u32 1,.i 65536]:List V).getD n .nilfn,N/33)
def rO (l N:Nat):Opd × Nat:=match N%3 with
 | 0=>(.t l,N/3)
 | 1=>(.t (N/3%S),N/3/S)
 | _=>match rV a vs (N/3) with | (x,N)=>(.c x,N)
def r1 (l N:Nat) (k:Opd->I):I × Nat:=match rO S a vs l N with | (x,N)=>(k x,N)
def r2 (l N:Nat) (k:Opd->Opd->I):I × Nat:=match rO S a vs l N with | (x,N)=>match rO S a vs l N with | (y,N)=>(k x y,N)
def rL {β:Type} (r:Nat->β × Nat):Nat->Nat->List β × Nat
 | 0,N=>([],N)
 | n+1,N=>match r N with | (x,N)=>match rL r n N with | (l,N)=>(x::l,N)
def rB (l N:Nat):(Nat × Opd) × Nat:=match rO S a vs l (N/32) with | (x,M)=>((N%32,x),M)
def rI (l N:Nat):I × Nat:=match N%20 with
 | 0=>r1 S a vs l (N/20) .mv
 | 1=>r1 S a vs l (N/20/1024) (.faddr (N/20%1024))
 | 2=>r1 S a vs l (N/20) .load1
 | 3=>r1 S a vs l (N/20) .nilck
 | 4=>r1 S a vs l (N/20/16) fun x=>.extract x (N/20%16)
 | 5=>r2 S a vs l (N/20/1024) (.store (N/20%1024))
 | 6=>r2 S a vs l (N/20/32) (.bin (([.add,.sub,.mul,.quo,.rem,.and,.or,.xor,.shl,.shr,.andNot,.eql,.neq,.lss,.leq,.gtr,.geq]:List BinOp).getD (N/20%32) .add))
 | 7=>match rO S a vs l (N/20) with | (x,N)=>r2 S a vs l N (.pick x)
 | 8=>match rL (rO S a vs l) (N/20/1024%16) (N/20/1024/16) with | (x,M)=>(.call (N/20%1024) x,M)
 | 9=>r2 S a vs l (N/20/1024/1024) (.ixaA (N/20%1024) (N/20/1024%1024))
 | 10=>r2 S a vs l (N/20/1024) (.ixaS (N/20%1024))
 | 11=>r1 S a vs l (N/20/1024) (.loadN (N/20%1024))
 | 12=>r1 S a vs l (N/20) .lenL
 | 13=>r1 S a vs l (N/20/4) (.un (([.not,.neg,.xor]:List UnOp).getD (N/20%4) .not))
 | 14=>r2 S a vs l (N/20/1024/1024) (.append (N/20%1024) (N/20/1024%1024))
 | 15=>r1 S a vs l (N/20/32) (.box (N/20%32))
 | 16=>match rL (rV a vs) (N/20/32%32) (N/20/32/32) with | (x,M)=>(.alloc (N/20%32) x,M)
 | 17=>match rL (rV a vs) (N/20/32/32%64) (N/20/32/32/64) with | (x,M)=>match rL (rB S a vs l) (M%32) (M/32) with | (y,M)=>(.bslice (N/20%32) (N/20/32%32) x y,M)
 | _=>(is.getD (N/20%b) .fail,N/20/b)
def r3 (g:Option (Nat × Bool)) (h N:Nat):Option (Nat × Bool) × Nat:=match h with
 | 0=>(none,N)
 | 1=>(g,N)
 | _=>(some (N%S,Nat.beq (N/S%2) 1),N/S/2)
def rC (g:Option (Nat × Bool)) (l N:Nat):(Nat × I × Option (Nat × Bool)) × Nat:=match rI S a b vs is l (N/S) with | (i,M)=>match r3 S g (M%3) (M/3) with | (g,M)=>((N%S,i,g),M)
def rP (j h N:Nat):Nat × Nat:=match h%2 with | 0=>(j,N) | _=>(N%1024,N/1024)
def rQ (l h N:Nat):Option Nat × Nat:=match h with | 0=>(some (l+1),N) | 1=>(some (N%S),N/S) | _=>(none,N)
def r4 (q:Option (Nat × Bool)) (l h N:Nat):Option Nat × List (Nat × I × Option (Nat × Bool)) × Nat:=match h with
 | 0=>(none,[],N)
 | _=>match rL (rC S a b vs is q l) (N/8%32) (N/8/32) with | (c,M)=>(match N%8 with | 0=>none | a+1=>some a,c,M)
def rM (j l h N:Nat) (q:Option (Nat × Bool)):(Ins × Nat) × Nat:=match rP j h N with
 | (j,N)=>match rQ S l (h/2%3) N with
 | (d,N)=>match r3 S q (h/6%3) N with
 | (g,N)=>match r4 S a b vs is (g.or q) l (h/18) N with
 | (x,y,N)=>match rI S a b vs is l N with | (i,N)=>((⟨j,d,i,g,x,y⟩,d.getD l),N)
def sJ (r:Nat->Nat->Option (Nat × Bool)->Nat->(List Ins × Nat) × Nat) (j l:Nat) (q:Option (Nat × Bool)) (N:Nat):(List Ins × Nat) × Nat:=match rM S a b vs is j l (N%36) (N/36) q with
 | ((x,l),N)=>match r (x.ix+1) l (x.guard.or q) N with | ((r,l),N)=>((x::r,l),N)
def rJ:Nat->Nat->Nat->Option (Nat × Bool)->Nat->(List Ins × Nat) × Nat
 | 0,_,l,_,N=>(([],l),N)
 | n+1,j,l,q,N=>sJ S a b vs is (rJ n) j l q N
def sD (r:Nat->Nat->List Nat × Nat) (p N:Nat):List Nat × Nat:=match N%2 with
 | 0=>match r (p+N/2%8) (N/2/8) with | (r,M)=>((p+N/2%8)::r,M)
 | _=>match r (p+N/2%S) (N/2/S) with | (r,M)=>((p+N/2%S)::r,M)
def rD:Nat->Nat->Nat->List Nat × Nat
 | 0,_,N=>([],N)
 | n+1,p,N=>sD S (rD n) p N
def rK (p:List Nat) (N:Nat):List Nat × Nat:=match N%4 with
 | 0=>(p,N/4)
 | 1=>rD S (N/4%64) 0 (N/4/64)
 | 2=>rL (fun N=>(N%S,N/S)) (N/4%64) (N/4/64)
 | _=>(p++[N/4%S],N/4/S)
def sA (r:Nat->List Nat->Nat->AC × Nat × List Nat × Nat) (N:Nat) (p:List Nat) (l:Nat):AC × Nat × List Nat × Nat:=match N%12 with
 | 0=>match r (N/12) p l with | (x,N,p,l)=>match r N p l with | (y,N,p,l)=>(.seq x y,N,p,l)
 | 1=>match rJ S a b vs is (N/12%128) 0 l none (N/12/128) with | ((q,l),N)=>match rK S p N with | (p,N)=>(.region 0 q p,N,p,l)
 | 2=>match rJ S a b vs is (N/12/8%128) 0 l none (N/12/8/128) with | ((q,l),M)=>match rK S p M with | (p,M)=>(.region (N/12%8) q p,M,p,l)
 | 3=>match rO S a vs l (N/12) with | (x,N)=>match r N p l with | (y,N,p,l)=>match r N p l with | (z,N,p,l)=>(.cond x y z,N,p,l)
 | 4=>match r (N/12/128) p l with | (x,M,p,l)=>(.block (N/12%128) x,M,p,l)
 | 5=>match rK S p (N/12) with | (k,N)=>match r N k l with | (x,N,q,l)=>(.loop k x,N,q,l)
 | 6=>(.skip,N/12,p,l)
 | 7=>(.ret,N/12,p,l)
 | 8=>(.exit (N/12%128),N/12/128,p,l)
 | 9=>match rO S a vs l (N/12) with | (x,N)=>match rK S [] N with | (y,N)=>match rK S p N with | (k,N)=>match r N k l with | (z,N,p,l)=>match r N p l with | (w,N,p,l)=>(.rangeFunc x y k z w,N,p,l)
 | 10=>match r (N/12) p l with | (x,N,p,l)=>(.scope x,N,p,l)
 | _=>(ps.getD (N/12%c) .skip,N/12/c,p,l)
def rA:Nat->Nat->List Nat->Nat->AC × Nat × List Nat × Nat
 | 0,N,p,l=>(.skip,N,p,l)
 | f+1,N,p,l=>sA S a b c vs is ps (rA f) N p l
end
def jA (S N a b c:Nat) (vs:List V) (is:List I) (ps:List AC):AC:=(rA S a b c vs is ps 40 N [] 0).1
abbrev yA (S N:Nat)  {g:AC} (_:(jA S N 0 0 0 [] [] [])=g:=by (repeat (apply funext;intro));conv=>{lhs;cbv}):AC:=g 
abbrev yB (S N:Nat) (a:AC) {g:AC->AC} (_:(fun a=>jA S N 0 0 1 [] [] [a])=g:=by (repeat (apply funext;intro));conv=>{lhs;cbv}):AC:=g a
abbrev yC (S N:Nat) (a b:AC) {g:AC->AC->AC} (_:(fun a b=>jA S N 0 0 2 [] [] [a,b])=g:=by (repeat (apply funext;intro));conv=>{lhs;cbv}):AC:=g a b
abbrev yD (S N:Nat) (a b c:AC) {g:AC->AC->AC->AC} (_:(fun a b c=>jA S N 0 0 3 [] [] [a,b,c])=g:=by (repeat (apply funext;intro));conv=>{lhs;cbv}):AC:=g a b c
abbrev yE (S N:Nat) (a:I) {g:I->AC} (_:(fun a=>jA S N 0 1 0 [] [a] [])=g:=by (repeat (apply funext;intro));conv=>{lhs;cbv}):AC:=g a
abbrev yF (S N:Nat) (a:I)(b:AC) {g:I->AC->AC} (_:(fun a b=>jA S N 0 1 1 [] [a] [b])=g:=by (repeat (apply funext;intro));conv=>{lhs;cbv}):AC:=g a b
abbrev yG (S N:Nat) (a:V) {g:V->AC} (_:(fun a=>jA S N 1 0 0 [a] [] [])=g:=by (repeat (apply funext;intro));conv=>{lhs;cbv}):AC:=g a
abbrev yH (S N:Nat) (a:V)(b:AC) {g:V->AC->AC} (_:(fun a b=>jA S N 1 0 1 [a] [] [b])=g:=by (repeat (apply funext;intro));conv=>{lhs;cbv}):AC:=g a b
abbrev yI (S N:Nat) (a:V)(b:I) {g:V->I->AC} (_:(fun a b=>jA S N 1 1 0 [a] [b] [])=g:=by (repeat (apply funext;intro));conv=>{lhs;cbv}):AC:=g a b
abbrev yJ (S N:Nat) (a:V)(b:I)(c:AC) {g:V->I->AC->AC} (_:(fun a b c=>jA S N 1 1 1 [a] [b] [c])=g:=by (repeat (apply funext;intro));conv=>{lhs;cbv}):AC:=g a b c
abbrev yK (S N:Nat) (a b:V) {g:V->V->AC} (_:(fun a b=>jA S N 2 0 0 [a,b] [] [])=g:=by (repeat (apply funext;intro));conv=>{lhs;cbv}):AC:=g a b
abbrev yL (S N:Nat) (a b:V)(c:AC) {g:V->V->AC->AC} (_:(fun a b c=>jA S N 2 0 1 [a,b] [] [c])=g:=by (repeat (apply funext;intro));conv=>{lhs;cbv}):AC:=g a b c
abbrev yM (S N:Nat) (a b:I) {g:I->I->AC} (_:(fun a b=>jA S N 0 2 0 [] [a,b] [])=g:=by (repeat (apply funext;intro));conv=>{lhs;cbv}):AC:=g a b
abbrev yN (S N:Nat) (a:I)(b c:AC) {g:I->AC->AC->AC} (_:(fun a b c=>jA S N 0 1 2 [] [a] [b,c])=g:=by (repeat (apply funext;intro));conv=>{lhs;cbv}):AC:=g a b c
abbrev mV (i d x:Nat):Ins := .mk4 i (some d) (.mv (.t x)) none
abbrev qQ (i d:Nat) (x:I):Ins := .mk4 i (some d) x none
abbrev aA (i d f a:Nat):Ins := .mk4 i (some d) (.call f [.t a]) none
abbrev sQ (a b:AC):AC := .seq a b
abbrev rG (l:List Ins) (k:List Nat):AC := .region 0 l k
abbrev cD (s:Nat) (a:AC):AC := .cond (.t s) a .skip
abbrev rT (l:List Ins) (k:List Nat):AC := .seq (.region 0 l k) .ret
def c3_0 :=yG 263 0x5ab3c7d4480ec3b09a5d693a33bc13b2d1000776dad0ec079e712b506a974f83a770824e5785cfd19a423e82f5a8620ebc5940c338e94d84d329d513a3ef4feff1a1edf5ae0775e22abe3d727844bd30ea69d0d39734b08c0588f24e5a2260ec (.i (-1))
def c3_1 :=yB 234 0x12eb75f28c5214d5d4ccb16cedbd595768b579e1ec0041ca0573508e22dca4f0cbad4d740866da57a4d2bcdbd5067f8ffd63c c3_0
def c3_2 :=(uF (fun a b c d=>jA 225 0x3a4a327603abf1e106a2d8a0b066d68db480f1a9fbe9ef496abdf49c462732aa1559793c31ed76e40f5ab22c9b50812558e5e00700833b7b5025c2bac3a0a798b9fe2dde057c19b1e535e2c2cc93be81c4bb8e66d20964cd0e7354e61e244e3f30c8338e170af372521b37036a15722ba279d087cb700761ad0a818ac61c1de8517ecd1ada754579d98d83e5495c 2 1 1 [a,b] [c] [d]) _) (.i 191) (.int .u64 4) (.alloc 98 ([.ptr none]++List.replicate 97 (.i 0:V))) c3_1
def c3_6 :=(uF (fun a b c d=>jA 181 0x1ffbe8f0b40bc6a61b1218c0853af27fb0d24e5a29933799402a511608af31941246b917862187dc41802901e2b085cae8c67ec72124f3c55d4502933b6a4bfa08c2e69917dfce70ad39fd4ae6610529ecbf964dc499375a2167403c72c2416a8c280a5a0dcdd3ef3364d1213256fe0538e5b14ffda7e64e750c99bd989cb1567e8e88851056e180c61773826123f7c33c7913fc 3 0 1 [a,b,c] [] [d]) _) (.i 34) (.i 9) (.int .u64 4) c3_2
def c3_7 :=yB 155 0x4052650412d8aad657e16ff2a3b490c0e793c6380b327516e54ef042af976003cec4b1c32d6f8b0ecdb82e83726cc23cdfe0666a7551d3a3a500c775c2f33129fe63258cd427fe36e93063980a54bcc8c37b6a2ecba9b6802c47f87611419c5b8f224d04e74785acd27f28ecd4bc7b73dcd0bc668444f6762f7cd83c05b2fbd161d919f97751d477ce59e88f5e971f58ca95c c3_6
def c3_12 :=(uF (fun a b c d e=>jA 108 0x153e6059fef272957868a7c2d0e9097175138d853613add90873f851b4459fcc6f93c12c3d1579e597bc3ba779b825f510a189d5a757f32da905c9ddf3ed477a0b7cdbdb4e3e9236a7d9474b72779acd9df19d1db5a48e530fdf64878e71bef3bba9992235e159ce29d059c0811fea86cc661874c35b3e42c7f3982e3679b68eb53a8a6d37470ce8df2801a6483168a091f8ae1a92e097319d8813df85d0b6ab96b089af48c 1 3 1 [a] [b,c,d] [e]) _) (.i (-1)) (.mkSlice 1 8 [.i 0] (.c (.i 21)) (.c (.i 21))) (.build [.nils,.nils,.nils,.nils,.i 0] [(3,1,(.t 98))]) (.build [.nils,.nils,.nils,.nils,.i 0] []) c3_7
def c3_15 :=yB 82 0x16a5f5d199c10594848ce7b6c77357c430f9d073222619fad1f02df26dfbf0431f15ae03c9f9ceeea1af8e512870c5c151ffda6077eb967a7ccbbf491ef0d1028b6fae58e01889a83968b76fd3e0bd5df032bfa73e9b479eaf2aab4cd7f94e9f1bc c3_12
def c3_17 :=yL 67 0x7f18736f0c90c911971e61d974c91b8d8e2b3af5797af847fefa89d6e7812410dcb6608b0d41a0d82770b1582ef46a6390101e5f26586496e33fd8d5f4c21397e15e6e909b33446cbc2ffeca82d035c97eb01ddbacdbeaff42ca1f60bc1e111861d100ddd0348c (.i 34) (.i (-1)) c3_15
def c3:AFn:=⟨0,263,[.tmp 0],yB 2 115829674140 c3_17⟩
def c4_2 :=yG 62 0x216f1e4ad2dac2ddbf5c99e9862bb119d62c2dce4cbe492b379ca4011892bf93cc012822d67b5ca3d2404211119566dc5685425a3eed5995a6dbbafe05379b45db1199333ea476d0774c5dc22c5f1ecf562657bb3a4c845512b85560d567c5d46ee65e4bbdb8a2f221f23106eb5f6cafda9e3d9475a37a768c3726a6430525c58a970ec371988f22a92a278739d4fd04538163c (.i (-2))
def c4_6 :=yB 64 0x9ec8e12b4bbd2092e7a7cbe59954eb1663996c6c4a4461e77f6953c5fb58956a77d0cdf629bada07f935a0ce5de9a48131eed58ec23b9a8ffa244c6e77518aa98354d4834efe03f29aa2a2c3e433c10e6408a7fb38bb91feb2e79748c82b85afb7ceedb1696c9726827f612b13b43da4867ac9d8a997c351c c4_2
def c4:AFn:=⟨2,64,[.cellN 4 4,.tmp 5],yB 7 0x3adebaa664411be32374cc420709f7a96db9700b71bc c4_6⟩
def c5_0 :=(uF (fun a b c d e f g h i j k l m=>jA 22 0xfdd54676b120b0176f5c96455d334cad327049217b50905e62318cc449098c7c983806730c8708c3c3d73b75b32572d61cd5f387033008ce38414b74751c4324ccb5b2f252432a1ffc89cf3f7df0e9f00392c3ab70814bf3b4c 3 10 0 [a,b,c] [d,e,f,g,h,i,j,k,l,m] []) _) (.int .u8 97) (.int .u8 98) (.int .u8 120) (.build [.i 0,.i 0] [(0,1,(.c (.i 3))),(1,1,(.c (.i 8)))]) (.mark (.t 5)) (.build [.i 0,.i 0,.i 0,.nils] [(0,1,(.c (.i 1))),(3,1,(.t 6))]) (.build [.int .u64 0,.bool false,.nils,.nils] [(0,1,(.c (.int .u64 3))),(3,1,(.t 8))]) (.build [.i 0,.i 0,.i 0,.i 0] [(0,1,(.c (.i 1))),(2,1,(.t 11))]) (.build [.i 0,.i 0,.i 0,.int .u64 0,.nils] [(0,1,(.c (.i 2))),(1,1,(.c (.i (-1))))]) (.mark (.t 14)) (.build [.i 0,.i 0,.i 0,.int .u64 0,.nils] [(0,1,(.c (.i 3))),(4,1,(.t 15))]) (.build [.i 0,.i 0,.i 0,.i 0,.i 0,.bool false,.int .u64 0,.nils] [(0,1,(.c (.i 1))),(1,4,(.t 12)),(7,1,(.t 17))]) (.build [.nils,.nils,.nils,.nils,.i 0] [(0,1,(.t 4)),(1,1,(.t 10)),(2,1,(.t 19)),(3,1,(.t 20)),(4,1,(.c (.i 9)))])
def c5:AFn:=⟨1,22,[.cellN 2 5],yB 3 0xf919a18146fd9788509c c5_0⟩
def c6_8 :=yE 146 0x8d3099914fb85b3942757dea092c94514f127f582c5a24bfd76a974b155a18d0893b7fa080f4ce60d0f6e39fc5479c3b88fb1ce7f2a4e6a3f4690d8c6c604136bf35d0a8fa4570b67663c6a15823845aebd8dc89ffd40dac94c7f72764eb3a1a63a8a8867f999be1b80957263bd7d782e6953f430ae4af483455fd09464f57203b7c48382fe05f91061288c763bf10fd009ed1bc3970b3cf7bf9727f01ae6db90 (.callv (.t 133) [(.t 136)])
def c6_10 :=(uF (fun a b c d=>jA 118 0xd307b6f708d1736d8e1c87cf82605eecfd2135ceae73b8d7a9abdb85df16ed8c1a8a7b05066ab957ec7449a10356ca202c5c4cd47971f5e1bedaad000088efa549687e76a2c77f83d331b6946d8d8b1c1334648a2f7a133ff535697b5dab86ddda29cb529cc86f17a5653ca52adb6573638c6bbcf952b3ac5d6d425d0bdf01d6fa0b210bd5945b3103ec80b875eca134ff01103b0fe032b47371c08412dfd1fc440ba0d571f028255be4b7f55b7ab411bc 0 3 1 [] [a,b,c] [d]) _) (.callv (.t 84) [(.t 85)]) (.callv (.t 94) [(.t 103)]) (.callv (.t 105) [(.t 115)]) c6_8
def c6_16 :=(uF (fun a b c=>jA 84 0x78d0dc7078103463614a4d9085a9b642ba6712a1477b47f2925c79e05691d40295d17371928be36eb1bf83e638757348f61fab0094e7e4f2694972e23eb32df20c8922efc06be6e1daa1738318172dcac71375225e69ffab3078347a1f620fc0f0e9860c7969f57dc289e5dd40e98882c725a62763c3d5d5e4402a59d07560509ee35a94a80fefdf270adbe9b580315c28484e117f1f48c 0 2 1 [] [a,b] [c]) _) (.build [.nils,.nils,.nils] [(0,1,(.t 70))]) (.build [.nils,.nils,.nils] [(0,1,(.t 82))]) c6_10
def c6_20 :=(uF (fun a b c d=>jA 54 0x66cc472073a8ddae6358b6d0887c27f95b299cd31b4458a8081c3f45b439fd38246a816d7d1e776471096b92e5d4620fd5df20f5896e3b7da5b583b5075e942be71d8fb0bc37923ab3bbe736541919579ad3b0e5270e822c5ea3321b999fb4a96019635663305e3de20e6cea65b5c100272145b672b0108d89dc2dbfc4a4fa78d3685cd59bf933677d9f1f5350827ed35c54d6910 0 3 1 [] [a,b,c] [d]) _) (.build [.nils,.nils,.nils] []) (.mkClo 22 [(.t 9)]) (.callv (.t 47) [(.t 51)]) c6_16
def c6_21 :=yF 31 0xd412e54ac7c638931b53ba1705cbc40f32cde23ce710270206358a78d66549d2e67aec38fe969fe7c59f318f8ea3be91bc (.build [.nils,.nils,.nils] []) c6_20
def c6:AFn:=⟨3,146,[.cellN 6 3,.tmp 7],(c6_21)⟩
def c7_1 :=yK 36 0x38fd4909c4b5eefc14b9e3847345eae2099c2bfca30db25d2cfc483027ff539a0ac6e26d870ae43fe3f9a23aaf81b53805b89e454438bb232cfe146c9233b7f00f5ad53c5d2e82d96999e9c082c1b85c41204d69c7b5bbaa36679aa888b02d0911d7bd368142062ba264af93f65510 (.i 1000) (.i 20)
def c7:AFn:=⟨1,36,[.tmp 2],yH 4 0x12f2ae5f7ff2455d98c612c (.clo 33 []) c7_1⟩
def c8_3 :=yA 26 0x4b12c4bb517caaf365a3928ef4b8ed12cbceebb677b282acab37c60543204daba413f1a383abaaed052dec4495100f0e9566977bd44745f7852d0437a75bfed3286442403ed3dc9c0e46bf82c4e83e32a55aa4e3a8f06df567e9c0476a240cb09949f6b97151b9fe250
def c8:AFn:=⟨2,26,[.tmp 4],yB 5 4789558881718428 c8_3⟩
def c9_0 :=yM 4 0x5edd46a407339c00824c (.build ((List.replicate 96 ([.bool false,.i 0,.i 0]:List V)).flatten++[.nils,.ptr none,.int .u64 0,.bool false,.i 0,.i 0]) [(289,1,(.t 1))]) (.box 294 (.t 2))
def c9:AFn:=⟨0,4,[.tmp 0],yB 2 116227805340 c9_0⟩
def c10_4 :=yA 35 0x20359e336dc693b53947a630fa3e28e5891cc2d7f3d575451655a9dfc85c6562147a9f79a11a2ba238761e8ba11b47188c8c098c3ddfc0c5b83c4306c9e851bc676057b9b3a211abe4ed3bae18816e10bddf16a128b6d7396af02cf81185c5549c1be3743b16b14cdeae50f0c9c21228d609dd94f49811bc
def c10:AFn:=⟨2,35,[.tmp 4,.tmp 5,.tmp 6],(c10_4)⟩
def c11_1 :=(uF (fun a b c=>jA 9 0x3940788c28b30053c4151f9ca89a160951237636532e764d71d5f8ef6452709a512c 0 3 0 [] [a,b,c] []) _) (.eq .ptr false (.t 4) (.c (.ptr none))) (.build ([.ptr none]++List.replicate 97 (.i 0:V)) [(0,1,(.t 6)),(97,1,(.c (.i (-1))))]) (.box 98 (.t 7))
def c11:AFn:=⟨1,9,[.tmp 2,.tmp 3],(c11_1)⟩
def c12_3 :=yA 45 0xf5d30f7cceed9be607a59b73c3a0b7219818667be2fe5cabeb73fc
def c12_4 :=yJ 39 0x710cdfdec2438fcc111eece757e1beaef4a9aea71e22190e9c038b03e4ff43ed03e5d9d944917b44e5b7566ce4352cfbee4a368426491bea6518e6e701b087ab31e8c7392fca38b510fced349d5745c608f269a3c4eb36690dbe7e4787d013059d3ccd3c0f9b9063bb084fc797e0599463662458eb2772307eda73bcdf4a52b017e562d09c (.i 191) (.field 0 none (.t 31)) c12_3
def c12:AFn:=⟨3,45,[.tmp 6],(c12_4)⟩
def c13_2 :=yI 25 0x7f4202410d357ac27a0647acb3316cf861d7ba0eb6243899fb6e05aa9746652d43ab0447751fb83b9135abc0097028a4634e37e79b5a092a4a8d697e8d64bef58d9945644cda21057e43eb73964811ded19a56b95909c (.i (-1)) (.field 0 none (.t 17))
def c13:AFn:=⟨2,25,[.tmp 4],(c13_2)⟩
def c14_4 :=yE 50 0x105fd9c3c0c417612607eac868ac09ca830884bbea7320b418e7dfb4422a66c9f48b32dba12bc8340ab2c5113b41b1c700155584ce730622f7daa37d87bb39d02559c357ca470d90582fb3d088aa72581c141a9ab5086643b7715518a561b5921ae5d2761f6a91c5f14c205c81a083b5b26fbcf14d04430ccb8a85a59028a65f163c (.mkBcl 42 (.t 27))
def c14_6 :=yF 20 0x2189825fc6bdf2643b7394236c7d98ca623c2b7dde0bd118572a27c5b566ebc07712b5c0194c479db6c559bddab67e8773287d75f65b8ce10 (.eq .ptr false (.t 14) (.c (.ptr none))) c14_4
def c14:AFn:=⟨4,50,[.tmp 8,.tmp 9,.tmp 10,.tmp 11],yB 12 0x3789151612a1db5b1a76c9cf5924c c14_6⟩
def c15_0 :=yA 9 0x1aebe21b0bfe0df0cf559d4ba3449dc55b4a237b283e1458f0a934e10
def c15:AFn:=⟨1,9,[.tmp 2],yB 3 535049883804 c15_0⟩
def c16_1 :=yA 21 0x38bd147ca8475d66131219f2c9f86c3d183b5ab88ac36ea727f0bb6242aa0317d7376227676790449af02c1f7fe9eb2f6ccd1e7df5a668410
def c16:AFn:=⟨2,21,[.tmp 4],yB 5 4789558483587228 c16_1⟩
def c17_1 :=yA 20 0xbf86f96e693077b29d9d9e55be461c07b7604bc834743fa1f17f5e0a9c0bafc6b8df00f8e560f980b8f1aa30602154829163c
def c17:AFn:=⟨2,20,[],(c17_1)⟩
def c18_1 :=(uF (fun a b c=>jA 38 0x8b8ce9bda74b6ccbd8005d25c269bb8fdbd43e0450b162fd7d15c2d8ca70b16894b550b583e7798ab7256b710413400b64887016d09602786ff1d26dfcf4fedaebfa5a7826df3ef8e6a7f64bf6334d2f0656eaeaf97ab0a5bd3fe343b25f60d7cf1faee78ba2194be9fe902709ec0f48c 1 2 0 [a] [b,c] []) _) (.i 6) (.build [.i 0,.i 0,.i 0,.i 0] [(0,1,(.c (.i (-1)))),(1,1,(.c (.i (-1)))),(2,1,(.c (.i (-1)))),(3,1,(.c (.i (-1))))]) (.eq (.agg [.int .i64,.int .i64,.int .i64,.int .i64]) false (.t 34) (.t 35))
def c18_2 :=yB 10 0x7bb9cae9093fb1135e3fb1c9f23f10f20fb39d58c05fc6deb3e0ef4548c c18_1
def c18:AFn:=⟨0,38,[.tmp 0],yB 2 115829674140 c18_2⟩
def c19_2 :=yA 29 0x518f0b2458c3b501ba63c51b04629d5a162cc98c9e5ec0e79ec1e8ac9388126d832cfdcbe714901dcccf10ba266ff43f5da045817720d26e9d2114bcb35aac03f6413568eff7c4e67f1ceb236105fffdbce72a787e5bedc38b668e5583d2199668c751a118101
def c19_3 :=yG 36 0x1f6376f779b5bd170ffb41866230d9e632e2ef978349fec52630b82aa6250 (.i (-1))
def c19:AFn:=⟨2,36,[.tmp 4],yC 10 0x101883181ecc5f05834f4b430aa3883eef7ee109c c19_2 c19_3⟩
def c20_3 :=yA 26 0x4b12c4bb517caaf365a3928ef4b8ed12cbceebb677b282acab37c60543204daba413f1a383abaaed052dec4495100f0e9566977bd44745f7852d0437a75bfed3286442403ed3dc9c0e46bf82c4e83e32a55aa4e3a8f06df567e9c0476a240cb09949f6b97151b9fe250
def c20:AFn:=⟨2,26,[.tmp 4],yB 5 4789558881718428 c20_3⟩
def c21_3 :=yA 26 0x4b12c4bb517caaf365a3928ef4b8ed12cbceebb677b282acab37c60543204daba413f1a383abaaed052dec4495100f0e9566977bd44745f7852d0437a75bfed3286442403ed3dc9c0e46bf82c4e83e32a55aa4e3a8f06df567e9c0476a240cb09949f6b97151b9fe250
def c21:AFn:=⟨2,26,[.tmp 4],yB 5 4789558881718428 c21_3⟩
def c22:AFn:=⟨2,8,[],yA 8 0xeb5e52bc210e9d05f2096462d512570095449⟩
def c23_5 :=yA 47 0xe23fcf3a7e7424d424e68782893b4ffd43b11361810790cd39fdb85be00a91f03d4d54ac3ed40aed379634001333b1fb042c03fb2efdb9dd357eb8d1e52b01454e8cc2356c52d489286a6530663ada72b9e556ee5cdb06c4fd84d0251ae9c5f88617421c3d34bb0eae835ec3bfac7c489900cb2a13cdb9582d2e8c7ed3308391bb62fca756b3f01057f2981822ecd662298b741c5b51e4e292e4e10
def c23:AFn:=⟨2,47,[.tmp 4],yB 6 0x9c669987baba9325c268ac312c c23_5⟩
def c24_1 :=yI 11 0x7a383b2ebb66d7606410a17dd1e6955f0230186dec759be22eceddc15d90bed932cd4d0 (.i 120) (.build [.nils,.nils] [(0,1,(.t 8))])
def c24:AFn:=⟨1,11,[.tmp 2,.tmp 3],yB 4 0xee3f9ac8fad12c c24_1⟩
def c25_0 :=yE 22 0xf777cff840c10fed8648ce138dcfb275a3ab67254def58ec07076117c901623e873fc (.mkIface 51 (.t 19))
def c25_1 :=yE 32 0x1cb154cc47692a25cf2c70641385e4f0917d087cbf0f0a16e916fe6a7a887b6caaed2568a9c4ce9751c (.mkIface 138 (.t 29))
def c25:AFn:=⟨3,32,[.tmp 6,.tmp 7],(uF (fun a b c=>jA 14 0x21bdc77faf7ece50b8bc68c2d0a394d1a53512c 1 0 2 [a] [] [b,c]) _) (.nili) c25_0 c25_1⟩
def c26_4 :=(uF (fun a b c=>jA 66 0x4aaf7d1a96a24c5b0671c333a1ccee1ef6bf844782c03669b8e8b268b505c81ae4703f661e44906443fa07200dd63d7cee75030cab5d93100d4a412e0722df60d9b4bf7760da4654d2c89c6198582b0a7eaff05b47b49fe9e941cc42a1bafa9203d65d05b51c7f7cb29619b434e0126de844f0acaea22f701ced48d07fe68eeaf1a897ce4e10 0 3 0 [] [a,b,c] []) _) (.invoke [(47,56),(51,13),(138,310),(189,317),(192,332)] (.t 44) [(.t 45)]) .mkMap (.build [.ptr none,.nili,.ptr none,.ptr none,.map none,.nils,.nils,.bool false,.bool false] [(0,1,(.t 56)),(1,1,(.t 57)),(2,1,(.t 58)),(3,1,(.t 59)),(4,1,(.t 60)),(5,1,(.t 63))])
def c26_8 :=(uF (fun a b c=>jA 37 0x2732c194157b2267d9c7fb2af910e63ec08929c360ec579ff6571040215768ade2c5c5c266fb562550a3f8b7fe1d5aa4fa2d1971807953d0aeb26eb417a78eafd869a31aaa95b56fc52159965c7692a69cf7e4dbbe07ccaa56c4e9c56b0d9e39f8a2fad2819510abd73fd6910 0 2 1 [] [a,b] [c]) _) (.eq .ptr false (.t 15) (.c (.ptr none))) (.eq .iface false (.t 18) (.c (.nili))) c26_4
def c26:AFn:=⟨4,66,[.tmp 8,.tmp 9],yB 10 0x250ab321e42c78f0912c c26_8⟩
def c27_3 :=yE 46 0x55c85456f7417b1a065ccb4bbe5d99b53de8865b2de98b4a78fddccf04c090055772ec6237ace97ad1512ccbaf20192a8949a6ba56ebae52c96ab01174d32348c (.mput (.leaf (.int .i64)) (.t 41) (.t 42) (.t 44))
def c27_4 :=yH 29 0xb271e9e169c885b1551b95f25d148546c8c7876348b4b13ab1ed5116c60bd24a65531bfdcca5f3545c0cacbe1c974bc9c5dd6a5afe6eb17234695150597b6bf9ee25a65310264d531236c986016d5f3a5d8455783b12c (.i 50) c27_3
def c27:AFn:=⟨4,46,[.tmp 8],(c27_4)⟩
def c28_0 :=yA 9 0x1aebe21b02ce4dab1f339861c3bb438837a150de283e16487fbf34e10
def c28:AFn:=⟨1,9,[.tmp 2],yB 3 533019414684 c28_0⟩
def c29_4 :=yA 57 0xd8e49254e121452aeb1c1f0f5810279eccbb2c74b162817d35d51fd69fca9bf143ec36fcb4967085d174c8a6f56f61dffc378649ca037029fc32bd77c42ab5d2521775844df975ad2231fbabfd348586e8dc03648be6b9fb46a8829b1122ea17def1873ecd39bdc122efe17ff463ff72df37befd0
def c29_5 :=yB 30 0x2928f3f6b9bcc5b2b6089e59813cfbaf5ae2432e1c05a493bcd85051537553418d1797d838c391bde3fb262961d57d9f0a45f748b7aa193756860e64e499ea3dee51cbf29882e56ea3e571dee617a72526d57c4351c c29_4
def c29:AFn:=⟨4,57,[.tmp 8],yB 9 0x1ea6b1cf4c12109c c29_5⟩
def c30_3 :=yI 39 0xbd17ae0d4fa904b14a373702b38fab85b040fbd31956ab2be9211dd2c4550248560fc8f66e80a0bed4f5d1d543ee2919bd50acc070a36ce8bd4fc85d2c84439ccbc3dbff32ff8fa25ea4a63953a15f2659e7defe4efd4fe78b3a89ad46dd31e3c07e20dd7f1da182e0b40c5a64ad5262c81102faea45fa1713f907bfce030 (.i 10000) (.build [.i 0,.int .u64 0,.i 0,.i 0,.i 0,.i 0,.nils] [(0,1,(.c (.i 4))),(4,1,(.t 33)),(5,1,(.t 34))])
def c30:AFn:=⟨3,39,[.tmp 6,.tmp 7],yB 8 0x1da1d5b8829afa5512c c30_3⟩
def c31_3 :=yA 29 0x2de30d4499fdbb429050e038029f390fe31df6140fadb868f4654f3898708a2c043cce37f275b6cc606f02ad09caa1ae17e65c5637824769ee33004fbabfb15c9787a451010b6c774231706f5ceedbd7588ac4beeaa3e9bd508e33f49385a3e5e5f36adaf642fa222e47c060b0b7ee64e10
def c31:AFn:=⟨1,29,[.tmp 2],yB 3 532661096604 c31_3⟩
def c32_4 :=yK 180 0xae6d53777e86edf7677ef2e808790e5ef60975e4c223dd5ed8ddef8b05f108219608afabcb19e003fc6edc6610850bc37f2a33104a3894b04e10d83c04c13725c13b54fa49cdb69f4cffc757d375bdede990ea4152335e99d1070e250 (.str [110,111,116,105,99,101,32]) (.str [32])
def c32_10 :=yA 118 0x143cc9ca335f6f0febc407814dc2c7816910b30d342e5a04d77d2703be2fd0b79f32f30927f48c612e16f9f7df6fd20d6a1bfb00ca293eb13ce3dcc57135df44fc4d5526eaa7e9f4c1
def c32_11 :=yK 130 0x227fecc1edc3581d6b31223f894515a459e91bba0df77f805bcaa7f9c17b02a4db9b845a594cad4405404e47187b74a8dbbbb0ee7b4b64066c598018aa8e4d83db90 (.str [114,101,115,101,116]) (.str [32])
def c32_12 :=(uF (fun a b c=>jA 103 0x31af208676ef3c921aca4a32fd36c87afa750536c4366c9d0e21690e10df94dd40b2af7faf6283a3dfb5545f9c67237908c6d2a7507f60391a1145b490d4662a6a0ac3235e2b9da63bb00c062535cafcfab535441abbc66de42056ef9ae20c074113b20a0db1c1ed42d69ceb04034965fd1eab59aa17752200dfc4a5a07f60f628950d5e9ffc2f24bffef7ce9796250 1 0 2 [a] [] [b,c]) _) (.str [108,105,115,116,101,110]) c32_10 c32_11
def c32_14 :=yH 131 0x2fa8e6c4a31849ad1e3a9566bbb5bfdcb9bb397795fa384391f27dbdae18663f5581ea499559c69bcbe7702fcfd2c190c84622a848779161390b1580a955136b28f3b01fd87708101 (.str [119,105,114,101]) c32_12
def c32_18 :=(uF (fun a b c d=>jA 62 0x421575fab0ec8c3b5ba08ec4195ea6b92777c708123027098a3c1e54ad11cd3619fa3af6c16d2a0b270f7880ccc7a3d504a1613a56b3f9e67c95bbe95e345cd4258939ba5f5beb6ee796467e94ca844f113703b4329e9a4d3a6e5beed061c06a473bbcbe82fa6f3fd1884830fa45547270dd94912b42f42f0ea11fdce51266f1acaf416c1824b41e39cb15ed2309a1daac15a33178674687e2ca48d8be40ec2d8d4de0c0 3 1 0 [a,b,c] [d] []) _) (.str [102,100,32]) (.str [32,119,105,114,101,32]) (.str [32,101,110,100,32]) (.ixA 96 3 (some 3) (.t 25) (.t 26))
def c32_19 :=(uF (fun a b c d=>jA 156 0x330f5430b734e8cf6afd8395e0818b3fe5f6827d33c22556af20875898847c31db830765a93a7e7968dbaba76bede1c1404556fff07d4dbd04368e51532fc344ebfe4f30c48d38d097786e97858060d72e5518b14c897369d75cd7321150f7191e30c453334666d730eb7623d51bc093f52559bc154f03e27b8305b0f626968a897dfa5d735f4552493e910 2 0 2 [a,b] [] [c,d]) _) (.str [115,105,103,110,97,108,32]) (.str [32]) c32_14 c32_4
def c32_21 :=(uF (fun a b c=>jA 28 0x95626c3a6a55170f348581b4939b2fca31b3dcb760154de2ebc325770fd6bfb1e73625d1c13ea4046bda369631b2f980cf01830748c 1 0 2 [a] [] [b,c]) _) (.str [110,111,119,32]) c32_18 c32_19
def c32:AFn:=⟨1,180,[.tmp 2],yB 15 0x37c95f9cc53bcde57557271e106c31ae813c60b509c c32_21⟩
def c33_0 :=yA 11 0xa9df87b910f375a971f39b3e99c36c355cf462bb0288e551c
def c33:AFn:=⟨1,11,[.tmp 2],yB 3 0x2cdf1f6d2ce12c c33_0⟩
def c34_0 :=yA 9 0x38583d281518ef9e227c2ab3574e2b285e147044909c
def c34:AFn:=⟨2,9,[.tmp 4],(c34_0)⟩
def c35:AFn:=⟨0,3,[.tmp 0],yM 3 0x119018f8aadaabbcd2d109c (.build (List.replicate 32 (.bool false:V)++List.replicate 32 (.i 0:V)) []) (.box 64 (.t 1))⟩
def c36_3 :=yE 29 0xef1ec0078a20619b2598fa1f15c8526fe03334692deb464d358121ae4961e2eb3b03d8fefb433da80c57d86f790d91e4f1c65b3421386b5e512dd9a574bccf2520c55f7d5232e28958f933d0b6e2ca75750e62b7a9b173eb8690a7cfae0a8e4a8f460d4225a2a2e262a204dc0789794563411bc (.build [.i 0,.i 0,.ptr none,.bool false,.bool false,.int .u64 0,.int .u64 0,.i 0,.i 0,.ptr none,.bool false,.bool false,.int .u64 0,.int .u64 0,.bool false,.i 0,.nils] [])
def c36:AFn:=⟨1,29,[.tmp 2],yB 3 533019414684 c36_3⟩
def c37_2 :=yA 19 0xca5e25c2f9ff8df21630575d7ef1ce863eb861811b11c601ac3976a0a5eae34f815166d318234a2b9723e80c31bc
def c37_3 :=yA 32 0x1f16603551b03ab35cf78e617cdba2e4c66993c9630868152dd38f03d657e31d18fea0b591c4779d65c2c6ce7b43807586182fc82c29f498aecc05a9050291e01f105cb148c
def c37:AFn:=⟨4,32,[.tmp 8,.tmp 9],yC 10 0x20ed4a2354600f42c31bf912c c37_2 c37_3⟩
def c38_0 :=yM 12 0x28acf3629c132e18fa91427e983a6c4f35b1616f5ac (.eq .ptr false (.t 3) (.c (.ptr none))) (.eq .ptr false (.t 9) (.c (.ptr none)))
def c38:AFn:=⟨1,12,[.tmp 2],yB 3 532422217884 c38_0⟩
def c39_0 :=yK 15 0x3279c557edcd06f595db767c844d2d6d2113dfb80c747acab22f612b3000b0547daf75c (.i 38) (.i 6)
def c39:AFn:=⟨1,15,[.tmp 2],yB 3 532422217884 c39_0⟩
def c40_0 :=yA 110 0x30a9b1da28c494d80153ce2547187fcaaeec177a718571a121f48b9cfb61fdc5706df9b2bae175d9b840c3fe5f012de5e9f8a0b844c494cbfd71c4aa508c2e43aaacf39e17365cbb94ac8c004397f8bffe1c
def c40_3 :=yF 85 0x382ab599a55d19eab8a7c2770a038871ba6bd394d21bb8c4ae56a5b9763e0cb12068293346b11d16f40be4cd785b34775d7fbfd51dcd7bcd2d49580bded0335d4143383b87c420db4656d38494bdff026e8f0e5db99d14e2c95732cf9e021c02b11f67dadc47f6d7ff63c (.eq .ptr true (.t 64) (.c (.ptr none))) c40_0
def c40_5 :=yF 54 0x1bb69f0db87a999ef9a73966dbb19449d32e42af011dfa5e41d7a7d9e1681ed8eacdecc55cc6bff75eb3dc2813b75225225543d705c76dc8d060838671410813d8cc78f4e1fad26279a1522d3fc (.build [.bool false,.bool false,.bool false,.bool false,.bool false,.int .u64 0,.int .u64 0] [(0,1,(.c (.bool true))),(5,1,(.t 37)),(6,1,(.t 39))]) c40_3
def c40_8 :=yF 36 0x5d4d262ce557743857d0bb07bd0cf795eee5d15d993d04c97867ad4410d3765e20a9b62f09ff57172165ed599dae3bb38e490f29bd89a13644573ced6c571f11461cd225757cd11530587551e92617aa902e1c92af2cd9d6933fda1f4cdc5616070a8b4279d318e8f7d13770c24dbe62647f254a5adb0cc5ae013f98ee9ae3734dfa163c (.build [.bool false,.bool false,.bool false,.bool false,.bool false,.int .u64 0,.int .u64 0] []) c40_5
def c40:AFn:=⟨2,110,[.cellN 4 7],yB 5 0x6fae926033c70f6292f2909c c40_8⟩
def c41_3 :=yA 98 0x4697c28b17169b286d8188655c135b7bfe0a7acbccd5bc797f3cfdd7700c768a00f7fd5c89c6af9307b24cfecd7a074f716b64d47af8b10c43103ab35700b1701eef40a4c0aa07815134c757f68a84ebc26526065d94925998ed36123e7bad186d3737cc50f9d9d7c7a74e7b8ff09355f5c6ea4d43baa108c1270fc8f67bc6b31cafe33fc
def c41_7 :=yE 121 0x983e05bebcb35f1303feff5261fb8c1f2dced9e4eb730d1009e184c798aa27c68cca656350032f6f5094e0aead6396a1c3ccf774fd8104ec17e967425432bc83b8c6ce97b770c355ba132d51c (.minI [(.t 108),(.t 115)])
def c41_8 :=yA 36 0x18dc67d09d9b2c7939e27d59b7c41ebd3f568e63044eb559e19968af609c83a660ea45bd3afa2608135e2b9a5025669879b1180d2545154f34685710249f0fbaf8ac90
def c41_9 :=(uF (fun a b c d e f=>jA 60 0x58484d541dc69218f02e3335e6373b9a183c6082d6e09586610deee7c92160ae19a093a72234cc05259cbc37635bab34d28ab9a940bd44ddb9a9c05f2da57c837eb0f7c57ad4ebcb8a0d6951aa989fde54e2fbaf5e7d2697ca1cda5a42b95a41930cc6dae1f448f0acf428fce4568a00e9e2aeea1fa2b6b07f1b6042148c27f41522b5f6910 0 3 3 [] [a,b,c] [d,e,f]) _) (.eq .ptr false (.t 11) (.c (.ptr none))) (.eq .fn true (.t 37) (.c (.nilfn))) (.callb [("roundhouse/dqueue.due",[(266,354),(272,399)])] (.t 40) []) c41_8 c41_3 c41_7
def c41:AFn:=⟨5,121,[.tmp 10],yB 11 0x25766e1190b89509c c41_9⟩
def c42_0 :=yA 8 0x4759916aac891b510ea2a1870b0ad257767ca9f9ce8749d1524516217dc417734e10
def c42:AFn:=⟨1,8,[.cell1 2],yB 3 0xdc404967a4a509c c42_0⟩
def c43:AFn:=⟨1,5,[.tmp 2],yA 5 0x161cd6554fc398c8b9e72bc5ca64509c⟩
def c44:AFn:=⟨1,4,[.tmp 2],yI 4 0x3e74bc8c76a4aa590df662612c (.nilfn) (.mkClo 89 [(.t 1)])⟩
def c45_0 :=yA 16 0x1799acbbd8123324ff2143b89844fcfc29b4fbc3c79f3b5e3491836cab02ebef7ec
def c45:AFn:=⟨1,16,[.tmp 2],yB 3 532422217884 c45_0⟩
def c46_0 :=yA 14 0x1f90cfcfb58567cc05c45c8798994c3baa1e88bc607b84f1e5ff5ae146909536c
def c46:AFn:=⟨1,14,[.tmp 2],yB 6 0x3a7f1b01092b5cd6fed3fc3c0e28082029f9dd09c c46_0⟩
def c47_0 :=yM 12 0x28acf3629c132e18fae52a8018c4ce24b5b1616f5ac (.eq .ptr false (.t 3) (.c (.ptr none))) (.eq .ptr false (.t 9) (.c (.ptr none)))
def c47:AFn:=⟨1,12,[.tmp 2],yB 3 532422217884 c47_0⟩
def c48_0 :=yA 52 0x4db01503d918f6a13988511d4db19fed376c15c1972f8c22ca0345a2dfc47a57e37a67fc9fff8d5138c32343a267dd068b0a00976d7da7a497daabe9670ae913fc6881af88f799067974db63694b815009b99036b2385419ee7cb7c48dfadc3661b641aa1de11d6156f554b4e731201e2f1e7644df7f64439096ba41cb0c
def c48:AFn:=⟨2,52,[.tmp 4],yB 5 0x5ec5c9f8d9a7319efbb1bc c48_0⟩
def c49_4 :=yA 37 0x3580462cb08169fe47207c4e9ec17631146aaf0637e6673bb65aa0d5490ad50e7ad6debc24ce027c29971c57a8f94fa06eff1134657b2b33db8d058caa6c40dd603d883d5c3507cb33decddd6db708bd154cc487a676a10005fe1101a3bfd2b573418787467f9aae4456401e63f6e72d50184e1f3da7631b987d37c2db8fbf900f5b7956696272211bc
def c49:AFn:=⟨2,37,[.tmp 4,.tmp 5,.tmp 6],(c49_4)⟩
def c50_2 :=yA 25 0x1f2df22a435725c903f398d5daeaf6812635fd2048284f7efa3f5916f5ac61c0aca9132fc4734730f4b21ea01c973550a12c64c6604eb3044694f7d484e046766e46849a5dfe4e5b25bbb5ac
def c50:AFn:=⟨2,25,[.tmp 4,.tmp 5,.tmp 6],yB 7 0x1c2e621d6ba304310c11bc c50_2⟩
def c51_3 :=yE 36 0xfd1962f193e06a359585b75da50e1f009a2da19c0f5a8338f117ad3fee1f1dba14faa6269f021f49420001a536356341d98d55fecf0c70eb5f36a9ca5921d1c28657d46a2336bd30e7146ace5cffa3a519d0bcfbfa44ac303f4c7f6cb98f4290e27f433b2c916ba701460f2039879a0925c2852efd0 (.build [.i 0,.i 0,.ptr none,.bool false,.bool false,.int .u64 0,.int .u64 0,.i 0,.i 0,.ptr none,.bool false,.bool false,.int .u64 0,.int .u64 0,.bool false,.i 0,.nils] [(15,1,(.t 18))])
def c51:AFn:=⟨2,36,[.tmp 4,.tmp 5,.tmp 6],yB 7 0x1c2e621d6ba304310c11bc c51_3⟩
def c52_0 :=yK 11 0x1ee2d2ded29a8dcfa00769519a8c0845cb65b6c5616f51c (.i 2000) (.clo 95 [])
def c52:AFn:=⟨1,11,[.tmp 2],yB 3 532422217884 c52_0⟩
def c53_2 :=yA 19 0x48d6cf32540517b972ef323930bb5c0fd213b1dea2672e6367427f91b3993dee008e3c287e76565b7523dbff65408b8c02d5cc418e1bed7908ce2bbbc5528f070cbbd01eff3e9e009221114b3c9436d3379cc7fd4d0
def c53:AFn:=⟨1,19,[.tmp 2],yB 4 0x478b5ad0581f49ad09c c53_2⟩
def c54_7 :=yI 26 0x182f08e4de399613bd458801e7c075fa721ca14453951fa81d06211f92acf3d3d1d3334a53f66323c5e24a20a77a629981ce3afdb2a0bf1daf5e37fcb84f2c073d5c7302f9913f1bc (.i 256) (.eq .ptr false (.t 11) (.c (.ptr none)))
def c54_8 :=(uF (fun a b c d=>jA 53 0xa51622647980580cf27a55def88de1ba0a557c0a5b1e132d371f9b613e66f03748295e28aceb91c5c20b286890b93d270af9b246852283d401e0d7022eb1bb482ade538b6447cd39d2536a880f66a1e2ac1c8d71f3dc17719bba5c27962f7002e605174fd50ac771b821eb00ee2e37d66300b4c21b0447735ba1f66cb252d76232ec09ef0b16c156d6e3c80d2109c 1 3 0 [a] [b,c,d] []) _) (.nili) (.mkIface 189 (.t 35)) (.mkIface 192 (.t 43)) (.build [.nili,.i 0] [(0,1,(.t 49)),(1,1,(.t 50))])
def c54:AFn:=⟨3,53,[.tmp 6,.tmp 7],yC 8 0x1a576e82a4b37c2a3489512c c54_7 c54_8⟩
def c55_3 :=(uF (fun a b c d=>jA 32 0xb4352197277e6d3785afd0dd96f61a76bb2484918a5287f6fb32e926177d3d10f06f6ca9fd9ece9297d636777eee1074380a3021376cd50d7efcc9fba1dc2aa3fbf8d70d03c6d58c33d6c0262dcdd9b8c9a9fcdf4ae770e6d86c3c5e910 0 4 0 [] [a,b,c,d] []) _) (.eq .ptr false (.t 10) (.c (.ptr none))) (.eq .iface false (.t 13) (.c (.nili))) .mkMap (.build [.ptr none,.nili,.map none,.ptr none,.ptr none,.ptr none] [(0,1,(.t 24)),(1,1,(.t 25)),(2,1,(.t 26)),(3,1,(.t 27)),(4,1,(.t 28)),(5,1,(.t 29))])
def c55:AFn:=⟨3,32,[.tmp 6,.tmp 7],yB 8 0x1da1d5b882a3489512c c55_3⟩
def c56_1 :=yM 66 0x2bb1f2b446c920b440821320249aa7a68e7159e76f142dc28a3480025c92687654e6f97804881350526dffd50239b54508a999e4cfb01503dd951033b2420c832b0b504fc82730ff16b36a8bb76e3b8b77c6fa79c5781f13473893b31fe130fac6a42540eb98dc73e17efb89b4fbd91bc (.eq .ptr false (.t 54) (.c (.ptr none))) (.eq .ptr false (.t 63) (.c (.ptr none)))
def c56_5 :=yB 72 0x5282c6330ee8b26502afc299883bc3a80f2db2215beac85efe5ed4ceda4e6b4974e0df16ad7aea397017062a2b7bc16ea0c60858d660e5ab0804a105aa7cd63ba46ad5af65e85a331f70a272a674d8cd2669779bc934dc3b8e9e10220138a1aaa36ec72406585661d492613cfabb5cd256544151ba0478e4c17c8ea364b0b8e563c c56_1
def c56:AFn:=⟨3,72,[.tmp 6],yB 7 0x17d6b927192d09c c56_5⟩
def c57_3 :=yE 51 0x7400172efc7b829004734bfa005a569e87a7e6fee752cabb1f7f3415cae635e87d7e42bf26d0f99bf1e65be2918cf1f667ec224e141e4bfc32ccd01293ac0f2829157ac042cdd8dde143c37c0f9f87941bbebb02cdadaf4a3e61a9bf9c64e600f05ab90463f1c8a4130343abbdffe1f7e7fe6a8916a48810ee5d877d18705f214b13fc (.build [.bool false,.i 0,.i 0] [])
def c57_4 :=yB 20 0x2736fd8e3657d13cb4d6cb730ea38c09a679953b68fcbd5d49776b5ac1ff808e2f524a6dcf7df841d23e2b1c2ada55fe7eff63c c57_3
def c57:AFn:=⟨2,51,[.tmp 4],yB 5 4789558483587228 c57_4⟩
def c58_0 :=yM 12 0x28acf3629c132e18fa91427e983a6c4f35b1616f5ac (.eq .ptr false (.t 3) (.c (.ptr none))) (.eq .ptr false (.t 9) (.c (.ptr none)))
def c58:AFn:=⟨1,12,[.tmp 2],yB 3 532422217884 c58_0⟩
def c59_0 :=yA 9 0x38583d281518ef9e27d9b2ae2ac1e0285e147044909c
def c59:AFn:=⟨2,9,[.tmp 4],(c59_0)⟩
def c60_4 :=(uF (fun a b c=>jA 40 0x30d0afc964df5629708b227ef6664bae241b3e2753e7d61be5d69a7872e2ac55e8c481394f2d2f708927ce43d723fc46dab3b680996b7419d28842aea2690cff0bf4c82a041683e64e4f6a9a86ac2e3df51e6e2b5316542588fb5c0089c814aba0da170d453790a0be42818b1780ed33b98e9b21ac93da3b55cce0addb90fefab97c5784c49cee04a76905fe312c 2 1 0 [a,b] [c] []) _) (.i 999) (.i 180) (.mput (.leaf (.int .i64)) (.t 31) (.t 32) (.t 33))
def c60:AFn:=⟨3,40,[.tmp 6],(c60_4)⟩
def c61_2 :=yA 22 0x2170b85086b178cd32659dd9c62b2136cce431d121f3ca81b0bf146b8ae3f79db608049bb1d24da73a45fab047f5aff3185f36a0dc75186b758638243ce20d063ce73c0e5c167f78011b10e918875f9e29b598429159e6d546a78cce182d99eb581fd4d0
def c61:AFn:=⟨1,22,[.tmp 2],yB 4 0x478b5ad0581f49ad09c c61_2⟩
def c62_2 :=yG 23 0x4bed2f2e108d22cb6ff71ac1f10c184309f6c3ff956f4bef2b46c351c386064629abaa93d4869609e3e368288531b6d1652e5f13410c987e1f4d7a524117639935da60b20e32fa8b2774713b84f5b471066614818cba5c30ef437e3f7cf07bb51c (.i 181)
def c62:AFn:=⟨2,23,[.cellN 4 4,.tmp 5],yB 6 0x109d2484b01b5c7ad3671112c c62_2⟩
def c63_0 :=yE 19 0x2ef64665e54fc8abc61a55e220b29b46b22c60e428c6285f6f774f6dd3691c7de27843d6cc (.lookup (.leaf (.int .i64)) (.agg [.i 0,.i 0]) true (.t 13) (.t 14))
def c63:AFn:=⟨2,19,[.tmp 4],yB 9 0x1282eddac86a396a72b91d3064e8ab09ae5ea7044909c c63_0⟩
def c64_2 :=yE 61 0x619d54715f92b57fc38c178bb89c35196033558c8b1ea4cfd85001031f91469d52ab2d79952fc1ddab584848e71546fe6f6973d908cc18b26f5cafb0de02c8bf8b681d7a407060f8c00ac92f533e2542356aba862b59660db0286b3029141b592b9fd5d18ab36cafa2aae07f06ff8a71d306113b80b682559a64edd962a5e7d1e69173021febbb9bdf93a5bbb2f9b0779055cf60aa6a238410 (.invoke [(51,12),(138,311),(189,318),(192,333)] (.t 47) [(.t 36),(.t 45)])
def c64_6 :=yB 82 0xc2fe576d29f656f9210fd0622ae207ac79165f61bb1d1efb46fc4041bdd58c684ad64e8653f6e0e1a14aa534516eb3da3ece0cbb1e2d3927b31133abe3c968f4eb9c373b7449d39684ea147b2b759cd43b4b9690a507712626fefe550e18ff6a8698a3de5f643dc36d80d99deac66e8a1e9872bc3f9a22ca3ce10 c64_2
def c64:AFn:=⟨3,82,[.tmp 6],yB 7 0xb5ece925ebe2dd0512c c64_6⟩
def c65_2 :=yE 29 0x25bafd6a61db00eb36830f2661839951868c508ffc472ee39ccb82fbc11d8cc6bdcd011c926f5181c6db66f86187bef8b6c80ce35be58f02dd4ae79cadfc75e78980898424cac41678686d0ad74460c597b2d3d2aa2d4c109c (.mput (.leaf (.int .i64)) (.t 26) (.t 27) (.t 28))
def c65:AFn:=⟨4,29,[.tmp 8],(c65_2)⟩
def c66_5 :=yG 51 0x40725082e6875527a2c9ad6e3862bd8dc115d0e403155ca1377e3d1ad9c638aeb2653dbc2b1f7949b5d77d66b321cd091d1bbc3e875f16a955d97db1918e4e109affcb632916a15f2c2f8b95f2d4ffbd6cff24342efbaa9ed5f423b0e065b630448b110d249867537878c8c23bf22be711a9e1344b923abd3aefac9d9e3ea1ae3fc2a146513bc92f86cd97b12aadb4443676cc (.int .u64 18446744073709551615)
def c66_7 :=yF 66 0x1de30628658e8be6edfb6c76713325ea10282de0a198efa37cf35899110d3d8c4d68706530d4656958259365deb1c561bd31cb3822672b24d6b8b6fd1bb1aecd2348d5c318aac6939bf235887ee45f3859cb3edbb96b9d9794736bb94d534c57e757512c (.build [.i 0,.int .u64 0,.i 0,.i 0,.i 0,.i 0,.nils] [(0,1,(.c (.i 1))),(4,1,(.t 52))]) c66_5
def c66:AFn:=⟨3,66,[.tmp 6,.tmp 7],(c66_7)⟩
def c67_2 :=yG 26 0x1e607235a488db4e0fe58720b36ebbd9f9970006886324d14bb18dca801e63c4ca72ab972549ae03be1db189cc500619e38d62fa8a67f091e1030458a18d98dee4e81479778af2aed13fc (.i 20000)
def c67:AFn:=⟨2,26,[],yB 4 0x35fccc64a4709c c67_2⟩
def c68_0 :=yE 8 0x97181ddfa0b65a59bbc280a0367cee9492480c68f073dd106732334e10 (.eq .slice false (.t 3) (.c (.nils)))
def c68:AFn:=⟨1,8,[.tmp 2],yB 3 532661096604 c68_0⟩
def c69_0 :=yE 8 0x97181dda95315253d5d498b368fe0a697dc80c68f073dd106732334e10 (.eq .slice false (.t 3) (.c (.nils)))
def c69:AFn:=⟨1,8,[.tmp 2],yB 3 532661096604 c69_0⟩
def c72_2 :=(uF (fun a b c d=>jA 41 0x4a811265c8bf1bb582fe9fd9188a9d6b2d404d1b02c8ef7404f6b26fab2f9bda4cf0f341c8146a78281966dd5dffea93d863708e4d159c59ee673813a865db4f32f4726c8574ee0247981f1c8ce72afa79dbcf77b31b331d7d0460477083d7e16b458358ea869274d9c3c0e44a07c059de828de39ded740740402c8e799ac117baeda7278b70be5cdedfdccd3941b6f436ed7c941ba962e43df865ccf34e10 3 1 0 [a,b,c] [d] []) _) (.str [115,104,117,116]) (.str [45]) (.str [47]) (.eq .ptr false (.t 16) (.c (.ptr none)))
def c72_3 :=(uF (fun a b c d e=>jA 10 0x95dfff799283904154250134340ce1f4db25fa756cedef3c4401a67dfeb2934b53fc 4 0 1 [a,b,c,d] [] [e]) _) (.str [110,111,110,101]) (.str [105,110]) (.str [111,117,116]) (.str [99,108,111,115,101,100]) c72_2
def c72:AFn:=⟨1,41,[.tmp 2],yB 3 0x2ce420e321612c c72_3⟩
def c74_0 :=yA 17 0x1016ed980489a9ab7bb335a2e424d40a144273798d71f857a5603b9c674c8bf113375c
def c74:AFn:=⟨2,17,[.tmp 4],yB 5 4789558881718428 c74_0⟩
def c75_1 :=yA 15 0x86f97b8dc13c8db86a1e6666b9e775c33896aae3778993f0b1188c604776689fbe970d1be7513e65b90
def c75:AFn:=⟨2,15,[.tmp 4],yB 5 4789558483587228 c75_1⟩
def c76_2 :=yI 19 0x9ee3fa1b608e88707de941dcd1ab47506f3fddb1a70479431a63d42c3032ced034a1f441f26ad668c406aa424ef8820f1e2753e16b316cbc4cd71eba7c4f5b65c59d36f2b65bbbfcd6707793d52909c (.i (-1)) (.callv (.t 11) [(.t 15)])
def c76:AFn:=⟨2,19,[.tmp 4],(c76_2)⟩
def c77_1 :=yM 14 0x207774792315068591a3ed4f97e9883571624906241b4fff63c14c9beb540ba16187a0de8525a3cce910 (.mkSlice 1 1 [.int .u8 0] (.t 10) (.t 10)) (.build [.nils,.i 0,.i 0,.int .u64 0,.int .u64 0,.bool false] [(0,1,(.t 11)),(5,1,(.c (.bool true)))])
def c77:AFn:=⟨1,14,[.tmp 2,.tmp 3],yB 4 0xee3f9ac8fad12c c77_1⟩
def c78_0 :=yA 9 0x10c95981326613d3471ba96dd402e6dfd2f3fc
def c78:AFn:=⟨1,9,[.tmp 2],yB 3 532422217884 c78_0⟩
def c79_2 :=yH 32 0x461c4ec4b304f566ccc502f9940bb8e5f2acb32b18c5b61f02261f6b1c76cb6afb981076c3e3e36e479a4524be1894d9ff1966b7cceae159ec61790a4923f5a3acc7c2bb9ac2e9d7b43809d21fa8d57be88cd30b0a2bdba14a616bc2ab763da7371d9fc75a (.i 1000) (.label 0)
def c79:AFn:=⟨2,32,[.tmp 4,.tmp 5],yB 6 0x8fb2b724723b958fed31bc c79_2⟩
def c80_3 :=yA 51 0x611869fbab388dbbf167e78da3d02706268ccd76c7efd09fce5e2061d70a485
def c80_4 :=yF 41 0x4254d1cb2f9f06cb06ececbbb2e1f765c3792fb85724334b9a22a46909b55e90517e1c23b42116a34dcedf911e4e54e6d90f377d1579c1be01f5895331cde0024767125491d7df1de347794685ff23a9471b357b5bea955ce56266895fb475a0245ede5e24a99532f94ec00adf0fbed55fb7ac466bd3a32aa644197042e1d829fd81f4d4d0 (.build [.bool false,.i 0,.i 0] [(0,1,(.c (.bool true))),(1,1,(.t 34)),(2,1,(.t 35))]) c80_3
def c80:AFn:=⟨3,51,[],(c80_4)⟩
def c81_1 :=yE 29 0xcbd007afe866d25979685191987ec297f6a4a30c3529ab3b4206263e6ef43b34364a1072cff07c03b8a48734d33b188fb3e81644b3d3b63a4f1501fcc0c9e97ee800d1725106234779d76bd6a8fcf60c0450242717394991bc (.build [.bool false,.i 0,.i 0] [])
def c81_2 :=yA 48 0x65bef6d184778fae1fe07114497a031a70cd173815e1e82de383a9c4e389715e717bcc61ff9bb6cc2daaed8717624c4d390db07c4b4be6056ef94de91bfb050d3263c6c
def c81:AFn:=⟨2,48,[.cellN 4 3,.tmp 5,.tmp 6],yC 7 0x8e302c0e1b468cb7e4ea210694c391bc c81_1 c81_2⟩
def c82_0 :=yA 9 0x1aebe21b02c61bf07437efc787308441dda71843283e237b4f5534e10
def c82:AFn:=⟨1,9,[.tmp 2],yB 3 532183339164 c82_0⟩
def c83_0 :=yA 24 0x730400d49687b0d9712c8b5bb5c3a480182c76b5bb2923a5572bbbc4936e1e488b07a0cd755995f849ec5c23fb7783550409333b4c
def c83:AFn:=⟨2,24,[.tmp 4],yB 5 4789558881718428 c83_0⟩
def c84_0 :=yA 15 0x7e25e1593efd4e32ccd096d4f4c80aaaa28aadb3669363c
def c84:AFn:=⟨1,15,[.tmp 2],yB 5 0x3eb06c7e4af3f7725e4ce5f3a2beaa54d386509c c84_0⟩
def c85_0 :=yG 12 0x10d946994df92139c88212033dbb90a1277d5331866f6139625243d53fc (.i (-1))
def c85:AFn:=⟨1,12,[.tmp 2],yB 3 532422217884 c85_0⟩
def c86_4 :=yE 40 0x47d6470a4c40d21775e0b05b84aef7b230bc94ca6ca65715c03e56744b861bbb1c8e137ec4fa83cda79961b427ed7fecd129a0d84a38189677f2223a9326c4661932a4f52cbd7d96008ada7afa0f2da3eb99d9f88ab44da9608c4dcf330c3e2334b7b312f1b939950552430a55c77bc7f0c2a07424603b6e0abf0cfdc236c1f8ed08cae1de831fd5864dbb66578af6d80a4890e1948c (.slice 4 (.t 18) (some (.c (.i 1))) none none)
def c86:AFn:=⟨2,40,[.tmp 4],yB 5 4789558881718428 c86_4⟩
def c87_0 :=yI 21 0x22860a0d8062f934b28b8a94914a436083e82041db06d803e4af59fecf017f74b5 (.int .u64 18446744073709551615) (.minI [(.t 11),(.t 16)])
def c87:AFn:=⟨2,21,[],yB 7 0x35fbc08a7c1362cdf1f9111bc c87_0⟩
def c88_1 :=yA 13 0x404468becfc215bc029fe1fae36844be8d77081adaf3cbe7490a321ef674e6164d9239a70d1704cef32c520253644550177a728c204e9f673b12c
def c88:AFn:=⟨2,13,[.tmp 4],(c88_1)⟩
def c89_3 :=yM 58 0xd63aec42fe0cb4ddf875cd7a2df275501792bfd524f7ffbc32a160422c82796a33b36e96a65ce9cc88b0c1bc83c42ad2b8b0f342f791d82b195920d21dbc67e4cf450c524935fee31dc6025dbb08791fdc64002c619c035b9204a94e61a21914cc8ffe0a6f54381df5cca4b4134875fe94fc485e2236ce98f2846b10ea2d1248ce1d48c (.build [.i 0,.i 0] [(0,1,(.t 52)),(1,1,(.t 53))]) (.callv (.t 51) [(.t 54)])
def c89_6 :=yF 59 0xe72860dcdfc900f2b5b704c336de421dd9ba74f5de425549daafefc422048b75311dee609c1c0bc24c3e4289e1e8c38beded8b850679eea4703dfa3d13ccd32806a0cbb94daa559029d5f223647adfa0d80d1 (.ixA 96 1 none (.t 11) (.t 12)) c89_3
def c89:AFn:=⟨2,59,[],yC 13 0x2f48dc14a4ae6a6b732d690bac009cde91ea03a (.label 0) c89_6⟩
def c90_0 :=yA 10 0x602b29284b91aa86e47937fec0564dc063ff727e7ce0b5f3d3330d7d2b34e10
def c90:AFn:=⟨1,10,[.tmp 2],yB 3 532183339164 c90_0⟩
def c91_2 :=yA 14 0xdf08d689ec6bacddcdf1f2fcfb932e75b48239aca5f21d4c56642aa4285fee09b1bd
def c91_3 :=yA 28 0x22bb7926c7ae266f2cc7479b698ee64d3e03c9bd178e29a88a6ca9491cd4e90aa52c6c6e291c421978ce59dbadf3ea83d3d0208a79cd78f65bef8f9d6f102179e12bb92784100ce0987fd613341db1653ce10fd4d0
def c91:AFn:=⟨1,28,[.tmp 2],yC 9 0xc87bb31a1e37a75db8197f4590f072dec5166a509c c91_2 c91_3⟩
def c92_3 :=yG 57 0x91691a183c05b25bb9286389be6107095affdbf96794ed60092839734ad76a6245f6018702f76d70e22bb65ec5ac36889f66915133535a7466710f2164489840096c2e8415c5008dc2610c9d2a4dbb08420a639068cf01598f27d4e1fb966f436217ed67de0fef150590de9ff748c (.int .u8 1)
def c92_5 :=yB 27 0x1f3b5b8c9b1c4229789ff805109cfefa38fb425520504227d47b670e70cd7484af8903ecaee42b606528dc32f674d86d3223001dc01afd7868e6910 c92_3
def c92:AFn:=⟨1,57,[],(c92_5)⟩
def c93_3 :=yA 26 0x4b12c4bb517caaf365a3928ef4b8ed12cbceebb677b282acab37c60543204daba413f1a383abaaed052dec4495100f0e9566977bd44745f7852d0437a75bfed3286442403ed3dc9c0e46bf82c4e83e32a55aa4e3a8f06df567e9c0476a240cb09949f6b97151b9fe250
def c93:AFn:=⟨2,26,[.tmp 4],yB 5 4789558881718428 c93_3⟩
def c94_0 :=yA 9 0x38583d281518ef9e2ef0b8a7547633e85e147044909c
def c94:AFn:=⟨2,9,[.tmp 4],(c94_0)⟩
def c95_0 :=yA 6 0x2200dd1a0a0fdea09f84017f14b5fa746daac1e12c
def c95:AFn:=⟨1,6,[.tmp 2],(c95_0)⟩
def c96_0 :=(uF (fun a b c=>jA 25 0x39ec5a9912293f2069c9969a6b18964cfc43dd371ad36d903fcc7c5ab76747141e0eda74429ad29fc82e3172ff32850ae646f11bdc30fa2ceef82f0bc466307874f5b4ce50 3 0 0 [a,b,c] [] []) _) (.i 50) (.clo 145 []) (.i 120)
def c96:AFn:=⟨1,25,[.tmp 2],yH 4 0x12f2ae5f7ff2455d8c1e12c (.clo 142 []) c96_0⟩
def c97_3 :=yA 32 0x221754c439794ed977d5ea833ed8466b1b865c6e6595a7e190418da3a98ba75ce38964e13b13f78e2c1e05f21f7c28e3e026301c11d0dc50b97a6b6ebe1d77183ad8cdc9e3d2462410a2ce4fb26d32e7d7c8bbed6582d9170a528395b2b9869c9c1d3cd17320037197c174e554b29808a65c66c678973078ca0b3754be6b7ba9912943ab42acad5340d15ac
def c97:AFn:=⟨1,32,[.cellN 2 4],yB 3 0x2a04996addacc8eabc1e12c c97_3⟩
def c98_1 :=yE 16 0x1096f2fb36b9ac5c1e25ed715db3bf961245c93660a324c01046616a434ee23b412a57342284caf6af629375beb589e771bc (.eq .ptr false (.t 7) (.c (.ptr none)))
def c98_2 :=yM 20 0x13d6e9416c69a354ffe6f56622936c (.build ([.ptr none]++List.replicate 98 (.i 0:V)) [(0,1,(.t 16)),(1,1,(.t 17))]) (.box 99 (.t 18))
def c98:AFn:=⟨2,20,[.tmp 4,.tmp 5],yC 6 0x13c192e1bcab4916ca2112c c98_1 c98_2⟩
def c99_5 :=yM 70 0x4b26624359d8618d08629500879d748ee4e94046db3d9d645c84c52a3b6fb707fcf6d41aa2203600b9ed461ef035c1fca5d6f499c53d24a14c39d8c86900c01982d4c7a89b7168b5ebd73fc (.build [.ptr none] [(0,1,(.t 63))]) (.mkIface 272 (.t 65))
def c99_8 :=yI 27 0x4a0346588161e0b1e3ef6b335121a13536fb7fb6b595e162289759cec9ca5c14a9b9c24b41b9d78f6414cff51a205f45b64511e4ba8fb01b11df0fc64e092d8a69271581b5ff2c51bc (.i 256) (.eq .ptr false (.t 14) (.c (.ptr none)))
def c99_9 :=(uF (fun a b c d=>jA 54 0x1d770410933e60147dd6ea4003ad03ba160a0840ff3c6bd81f4bd6e6e567f328d14d6b7ab7acaab5f603e3c8b2ce5ccb3ce62650359ad18ab214a8ac6c7d709178988ff14af43fe0c3dc15badd97e86d575909fb50cee2c9a84badf035a61a85db96cf11b14445f2a5ceb8c1f14bc01f36c 0 3 1 [] [a,b,c] [d]) _) (.build [.ptr none,.nili,.ptr none,.i 0,.i 0,.i 0] [(0,1,(.t 27)),(2,1,(.t 28)),(3,1,(.t 29)),(4,1,(.c (.i (-1)))),(5,1,(.c (.i (-1))))]) (.build [.ptr none,.i 0,.ptr none] [(0,1,(.t 43)),(1,1,(.c (.i (-1)))),(2,1,(.t 47))]) (.mkIface 266 (.t 49)) c99_5
def c99:AFn:=⟨3,70,[.tmp 6,.tmp 7],yC 8 0x1a576e82a4b37c2a3489512c c99_8 c99_9⟩
def c100_1 :=(uF (fun a b c=>jA 15 0x47ad6c06a19cbc0797bbdb01b17183482c800b42d99e414c9a169890429f4c2e4ea48d2ad6233dd6b5ce910 0 3 0 [] [a,b,c] []) _) (.mkSlice 1 24 [.nils] (.t 10) (.t 10)) .mkMap (.build [.nils,.map none] [(0,1,(.t 11)),(1,1,(.t 12))])
def c100:AFn:=⟨1,15,[.tmp 2,.tmp 3],yB 4 0xee3f9ac8fad12c c100_1⟩
def c101_0 :=(uF (fun a b c=>jA 4 0x30f83c1e80f706b40b3266909c 0 3 0 [] [a,b,c] []) _) .mkMap (.build ([.map none]++List.replicate 128 (.nils:V)) [(0,1,(.t 1))]) (.box 129 (.t 2))
def c101:AFn:=⟨0,4,[.tmp 0],(c101_0)⟩
def c102_0 :=yM 5 0x9b8407b858ae3833f88d02dc .mkMap (.build [.ptr none,.map none,.int .u64 0] [(0,1,(.t 1)),(1,1,(.t 2)),(2,1,(.c (.int .u64 18446744073709551615)))])
def c102:AFn:=⟨0,5,[.tmp 0],yB 2 116227805340 c102_0⟩
def c103_1 :=yA 22 0x4a978e14774a27f8aa1ef2c3cdf1f5131094cdd8c2c83d0c8905e5ab8fba454f7094b4d8c075cd99d1b5176b28e185221de565a396916cc
def c103:AFn:=⟨2,22,[],(c103_1)⟩
def c104_2 :=yG 19 0x3511240824bf9a91920d677f4006b4515d27d48ad547fe7fe94fb476cdf782d314c6a586c49c67a53d75055598dbc352d989e4da603316cbc4cd71eba7c4f5b65c59d36f2b65bbbfcd6707793d52909c (.i (-1))
def c104:AFn:=⟨2,19,[.tmp 4],(c104_2)⟩
def c105_0 :=yM 12 0x28acf3629c132e18fa91427e983a6c4f35b1616f5ac (.eq .ptr false (.t 3) (.c (.ptr none))) (.eq .ptr false (.t 9) (.c (.ptr none)))
def c105:AFn:=⟨1,12,[.tmp 2],yB 3 532422217884 c105_0⟩
def c106_2 :=yK 58 0x2d1c1485df28ce45a0b8dbf1519c7c655b746cc70831cf79c6c5d4860dc7276f9c5e0e1d51fa7cc0c36aa786c541b37a1639d01cc4a1afb9f64564cbba9e83489b075fd44cfab68ad39d971b821ad568fc501cca26984eb68e0c0bbeff3f19c2ee046d208eae90da0a3009be8cb53f9e91311c754156998d7bd59c3b12c (.i 54) (.i 6)
def c106_4 :=yB 72 0x2c3b83afe737b2d92e4bb8797ed859fdd68baea4f389a0bdcb01c77bdd05a316efe28d95f628382c7326c0054525559f7d205fc4d5e0b11117d862ffea38f4cad889c2d13dbf515e539bfc0774f76295f796a34f69bae4552e1c444b14d16b5c62f6521a6e29850 c106_2
def c106:AFn:=⟨2,72,[.tmp 4],yB 5 0x5bbfb6ebb29e28512c c106_4⟩
def c107_3 :=yA 63 0x6e08216de3ff93cad38ef3b6d8a5ca430f406c944884997e509cd1b8f024e8268138247429734fd084146f95fa1e2ac06ff0c75bbb2763cd0427e303a04f2e90168c1b4f7f03f8acdb8ae0245901133247cf4a7c5f2243d2156179735873714ebcf95f809f048b3843297bf0ae8149166726d13180ad0
def c107_6 :=yH 37 0x77508fecdb06024774e8056c5fda3ce659eb7711b650de81481561c483b27a1eef2e8b5db911f2f25381dbb33766492c2ea0dac2f8a4827e1319322cf1bb88a06fbe3fc2a9307e0be8e21f33467ac026e241cc66f7683ff4301bc9e2d80d509b1e9ce96879ab8c7780a9fbdc771ba41b7889138046e551c (.i 6) c107_3
def c107:AFn:=⟨2,63,[.tmp 4],yB 5 4789558483587228 c107_6⟩
def c108_1 :=yE 15 0x1ef17ec51cf7b422b90b3cf3b757a497cf2787aebbac71c63e92cc3c48d399ac911bc (.mdel (.leaf (.int .i64)) (.t 13) (.t 14))
def c108:AFn:=⟨2,15,[],(c108_1)⟩
def c109_1 :=yM 22 0x2ece4018dd45ff9e4d360c8c4c69e34399dfe5510db879e6e00983edcd90b9a35894535c21b94b258784834e2b55c590b5aff9ad40fd27ebbc69abcb46467dd4a2f1b3f47a12ce10 (.build [.i 0,.i 0,.i 0,.i 0] []) (.lookup (.leaf (.int .i64)) (.agg [.i 0,.i 0,.i 0,.i 0]) true (.t 15) (.t 16))
def c109:AFn:=⟨2,22,[.cellN 4 4,.tmp 5],yB 6 0x109d24861a6e0e249b671112c c109_1⟩
def c110_0 :=yM 12 0x28acf3629c132e18fa91427e983a6c4f35b1616f5ac (.eq .ptr false (.t 3) (.c (.ptr none))) (.eq .map false (.t 9) (.c (.map none)))
def c110:AFn:=⟨1,12,[.tmp 2],yB 3 532422217884 c110_0⟩
def c111_2 :=yK 47 0x2e0319c5f3e6ad68e95a30778139cd5db012afccfaf78339178943f6d4ce1bd9646d518af760c9e0b1c5841c5013b23325829b13be76d0c2ba2702e1b336b42fb480e9237dace2ef16f5a2b0f1ef69d320a8efe554a35e2796782a15e776941541c26ad7b083e6699e52240085eccb7b259d72958591e9c1fcb6a126ab75c (.i 180) (.i 182)
def c111_3 :=yB 12 0x12b570f690c516314029d0c629a16aba1a8dd8cb55224a2fce030 c111_2
def c111:AFn:=⟨4,47,[.tmp 8],yB 9 0x1ea6b1cf4c12109c c111_3⟩
def c112_3 :=yM 37 0x496d65405a2bdf3ac31c2fe8974811d153afcb48e4cd4fd559602af718b0a684923670fc8dc401483d485bf54524a1cd46dbcdf41887dbfff652480dba2a7a6e380235385c034db949cf48d08491767280a70c7e14fc4a118becef3ec8d4d64554dcb9a5b873a000a4bb68472efaf80d2efd0 (.lookup (.leaf (.int .i64)) (.agg [.i 0,.i 0]) false (.t 30) (.t 31)) (.field 1 none (.t 32))
def c112:AFn:=⟨2,37,[.tmp 4],yB 6 0xa125d43d4e0d782e6c109c c112_3⟩
def c113_4 :=yM 49 0x2fe4174164d0da6cc8b50a57b40ca6deb0c1d16b1a636a2bc986b8e05ba8803539c364f6dab197bb9df12cdfca487f39a1ccdf75599064672edfec8f331aa3e0552d1bb5ade00accc3406e3f3fca683515e8b90b8f571ff0e526cbec1db2f59fbada070a6e635905697011d933bbef5f0fbee0a119e265dd1fca7cb0db7aff9a2549015fd3077f6b1ad68b4ecc35187fd47d64dcb91f127e733fd8c38e910 (.build [.i 0,.i 0] [(0,1,(.t 28)),(1,1,(.t 29))]) (.mput (.leaf (.int .i64)) (.t 26) (.t 27) (.t 30))
def c113:AFn:=⟨4,49,[.tmp 8,.tmp 9,.tmp 10],yB 11 0x2c513520e4448df2aa4891bc c113_4⟩
def c114_4 :=yG 22 0x465b3c645e05016b75724c4e91ad18246bea0b5811fbf16a7988792581952ae9fd69982db6a8b92c0002d1b65922853986989bac85fffc434205f0611c4d4690cecf3dd0eae773e5933e88dbb1bc (.i 180)
def c114_5 :=yM 51 0x1699d4919b6558b66955da0a689ab7c5fa7f21392cfeb952e930a986728a846e227c3e2eb469ed46072f4852b9f4d5a9b85067494c66a2ab11d7e3cf064778368d6348f07e1c1b72d02018ab3f5d64fbe7927115bbde5a9011c9973562d4667c98fde1c85fd548c (.build [.i 0,.i 0] [(0,1,(.t 27))]) (.mput (.leaf (.int .i64)) (.t 25) (.t 26) (.t 28))
def c114:AFn:=⟨3,51,[.tmp 6,.tmp 7],yC 8 0x1a576e82a4b37c29d59d512c c114_4 c114_5⟩
def c115_0 :=yA 20 0x6d87ddecd38dba9fce97dad852be9ed1c6e6e69e83e304ee912ba4ca89824ea45541baadd48c
def c115:AFn:=⟨3,20,[.tmp 6],yB 10 0x1f5a9fc7e1171a371b982c65d768a33e313b41346e509c c115_0⟩
def c116_0 :=yM 12 0x28acf3629c132e18fa91427e983a6c4f35b1616f5ac (.eq .ptr false (.t 3) (.c (.ptr none))) (.eq .ptr false (.t 9) (.c (.ptr none)))
def c116:AFn:=⟨1,12,[.tmp 2],yB 3 532422217884 c116_0⟩
def c117_1 :=yE 98 0xfebc955d3059191135c7196c1ce607b48248722bc441210860e2368c2fe65e04499e8c055618ee776dd38e85003dbc407d8e28d999a7c28d7178666d6779cbd43025997256c20b5453b228 (.mput (.leaf (.int .i64)) (.t 92) (.t 93) (.t 94))
def c117_3 :=yB 99 0x519aacdf1663251fc60d2d168db02090f2d20b354389625e48a3a41f0c697aac9461778c411c82712648e031e974f72f8218e22b541cf885e672ef5a8cc0d2543a7583be32eea2e2f7f59e1ce666fb91a18d8ce479526f4819fbf04ee5fd3c349adcc6c20b03a1a4257f9b40745be394de150 c117_1
def c117_8 :=yA 18 0x2999b19e663b1c5fa090ce2663631035222752634f51c8e6660c9f
def c117_9 :=yN 105 0x1ef2b76eaf2aaf88cf7c7d9020727807b69ac671a343660658161c0fa7ae7e56a18170b161e65d264e2edd522adb2712a2cf6e1460de8fb47b8317b25e603060d755928c17d0746be36ef8c825ee53ec88fa661dfb8355d115304450461026a5750187e4bc36573db544872a22d40f2a938244743529de9bb4392d4825b2e4f66b8b7076f2d945390205d3917223bd01277edfce030 (.build [.i 0,.int .u64 0,.int .u64 0] [(0,1,(.t 21)),(1,1,(.t 24)),(2,1,(.t 28))]) c117_8 c117_3
def c117:AFn:=⟨4,105,[.tmp 8],yB 9 0x1ea6b1cf4c12109c c117_9⟩
def c118_0 :=yA 9 0x1aebe21b02d67f65ca2f40fc0046000837a150de283e1e8de31d34e10
def c118:AFn:=⟨1,9,[.tmp 2],yB 3 533019414684 c118_0⟩
def c119_0 :=yG 23 0xebb5c8ac7611974dc9631e3be5b8beb8341fc92f890f3b9cc14be6ede8fafc48f96225258ecb312ac7633abc (.int .u64 18446744073709551615)
def c119:AFn:=⟨2,23,[.tmp 4],yB 5 4789558881718428 c119_0⟩
def c120_0 :=yA 11 0x1016fa09b2261f0f20d41771103311ae59462679c803c39911bc
def c120:AFn:=⟨2,11,[],(c120_0)⟩
def c122_0 :=yA 10 0x602b2929d0909eee9313099df445ecaa0c1f727e7ce0b5f3d33e64c37334e10
def c122:AFn:=⟨1,10,[.tmp 2],yB 3 532183339164 c122_0⟩
def c123_3 :=yG 119 0xbdb47d6d3f12b169089726054a362bc47036ebcba2ce7a7f3c748d025877a0f400291db165a00b7ff852e17c46bbfd742e357efe0330a1de7cf0b71fa3f2af9b4a1d788bee62d134f1e590998fe83350 (.i (-1))
def c123_7 :=yB 100 0x5c3afb64dfd36f42a37c4ce5b166985c0099967311783ff232cb28e4f92cb880ec41faf8cdea5fcdb3fb37d54ed129e49c08a2a530860826ca5155928f4719ef4506c1527ef85a2d90751f45a7bc23537da2ee228d27c18388af27e8656db4e4b571872000345b744fd75285c24f621af2ee2ef15b28e7f7ac92bc33c5ef08a4273efc1f27d34bc8e1871dc5c5cb2103663d85058dbd3fc c123_3
def c123_8 :=yF 66 0xe1caf7aa640ceba6714c22f72597865dee1874cae35c679db9016c26c2308d79ce402817586f57aae643b2a5f68f5f82d165729c50066ed9e3f2f05cee4526e4ae14744bdbc5aff6784f728ef5ddfc685a4b190fc4f02fc97a9eea5688b8266843e97576c5f143dce19845bd8b49fd5c6c (.invoke [(51,14),(138,307),(189,315),(192,330)] (.t 53) [(.t 49),(.t 50),(.t 51)]) c123_7
def c123_10 :=yB 41 0x2a2b44024665d71914e79ce0bd6304854af6d39fddd4ad77972b5f0224d15639967a8d15a7879aeb59a5e8a791061b38203f958f88ab586f4d44acef069aabe534ef3e918ec31b3ee7cc38386e66336c c123_8
def c123:AFn:=⟨2,119,[.cell1 4,.tmp 5,.tmp 6],yB 7 0x118bab3e26af33a3f5d780d0e5724c c123_10⟩
def c126_2 :=(uF (fun a b c d e=>jA 24 0xd33ff95e2a70fb0a47b03916ee890f2e698cb3e36f3fed8022696a41d19a9bcd3ff3dbd7bb5698f08308a23d5858975d2508d3baaa4a6b7b1298c7c1ebbabaf80d7e705f64239de7d68cb485f6c826a603338c5fdfd4d0 2 3 0 [a,b] [c,d,e] []) _) (.int .u64 4) (.int .u8 15) (.ixStr (.c (.str [48,49,50,51,52,53,54,55,56,57,97,98,99,100,101,102])) (.t 14)) (.ixStr (.c (.str [48,49,50,51,52,53,54,55,56,57,97,98,99,100,101,102])) (.t 17)) (.ofBytes (.t 22))
def c126:AFn:=⟨1,24,[.tmp 2],yB 4 0x478b5ad0582ceecd09c c126_2⟩
def c127_2 :=yE 25 0x1c596d4d17ec5dd80b2427045ef802d27d324e96db956b58eb464e5efcc75b3e30a91ae8ad753f40a4de6857ffae6d3706feb289e2458559e3afda7a938c8b83cbe0accb9185b240715b16250 (.minI [(.t 7),(.t 9)])
def c127:AFn:=⟨2,25,[.tmp 4],yB 6 0xd6f0a7a432590d786760109c c127_2⟩
def c131_1 :=yE 12 0x3e74f9865516d1e62928e0bd51a3112d9242c769a70a76d08c41cadd0ae129bce32b68722f004f1a2ae0b68785caf109c (.eq .ptr false (.t 6) (.c (.ptr none)))
def c131:AFn:=⟨2,12,[.tmp 4],(c131_1)⟩
def c132:AFn:=⟨1,4,[.tmp 2],yI 4 0x3e74bc8c76a4aa590df662612c (.nilfn) (.mkClo 178 [(.t 1)])⟩
def c133_0 :=yE 12 0x7a06da27d437bfc5240a77f6c69429455d39616f5ac (.eq .ptr false (.t 3) (.c (.ptr none)))
def c133:AFn:=⟨1,12,[.tmp 2],yB 3 532422217884 c133_0⟩
def c134_0 :=yA 19 0x28889a551ac283ad5b751d1700d8545e9e6e0d799794ddcaccde6e67d9b4d3a4c003eedcefe9d07194a92fcf6f505d63c
def c134:AFn:=⟨2,19,[.tmp 4,.tmp 5],yB 6 0x163572952108f7112c c134_0⟩
def c135_4 :=yA 39 0xac6efdc4efecd0ba3a1942003586ecc244ef22cd20b61ac3c461b490e3ae1ea0ec470f56e6322f43d00ab89006163c
def c135_5 :=yA 25 0x6b0919664c5aa8a5fd94fc02e427049dbcc67622b74f7eb7a9f342b5ac
def c135_6 :=(uF (fun a b c=>jA 67 0xa9b27f3cfc28622d4f3e82ecf03b6dffaddf3456fbe12e886594d3cda222eee8b61d8ac0bdc9faa8598eeeb772b995584f4e8a3eb12b3fb489056c12afcfca1ab4566d2cdcbb94a2095fd31919cae0f1811adc2d199a800305a44f9b435c0540a3e8e2591ac428a6181426ab7f90d42baa0e39d5bccd89819c43a97a79a41cca1a3b7147b38c8a1a0b1172360528f2a16c647a2ffff1dde22dd9201e13b674f 1 0 2 [a] [] [b,c]) _) (.i 6) c135_5 c135_4
def c135_9 :=yH 71 0x4f7c136fc0dd25f0232d0ec822cd52c0e7b9b4845f6e80416cb7aa6f9c21ecb803c662d35f6d61c4793209dc9aadac04a8fc2f71f4700e750e1674d93afb3d64c82f6637520e059d8d0fbd5bf831db46ebc20fa4d2cd0f523d18dd631075a411bc (.i 120) c135_6
def c135:AFn:=⟨2,71,[.tmp 4,.tmp 5],(c135_9)⟩
def c136_1 :=yA 13 0x13cd27dc47ea229bdd421dc2dc62c691ed1c6f69c6fca985f5736fab22f7b00a933f1b62b16111b834305d423ebf54c7adea2fff6c36bb1712c
def c136:AFn:=⟨1,13,[.tmp 2],yB 3 532183339164 c136_1⟩
def c137:AFn:=⟨1,4,[.tmp 2],yI 4 0x3e74bc8c76a4aa590df662612c (.nilfn) (.mkClo 186 [(.t 1)])⟩
def c138_2 :=yA 53 0x22805950e40bc39fc11a057980dbf592dfb6496215e716b4c52d8f49396defad4e96acd5cd73fdcfe199fbc12766c6cea6c52aff8e75c4039b1eceb4a8f09f964297bdf7775ac
def c138_3 :=yF 31 0x5076c6398e99d0adff6ae8499631dfb802f94db2da1a384d046785720311feee1c23bf7399611a8f943d5c67793c4cebba639b4ba91ec8eae7c661d354cdb1cfbbf06bad4468210ad0 (.eq .ptr true (.t 16) (.c (.ptr none))) c138_2
def c138:AFn:=⟨4,53,[],(c138_3)⟩
def c139_0 :=yA 8 0xa4dd65cbb174b26e2a6a2a83ff11e37c8ebf6e30d09c
def c139:AFn:=⟨1,8,[.tmp 2],(c139_0)⟩
def c140_1 :=yA 25 0x2b602c69e43b8ab58fdad56cf5dc3aa1c97cc5abb49cc0741e5462b3a654b965471f2b809640d93a8f86282a07c2a2d60d54556983121e3237caf1963c
def c140:AFn:=⟨3,25,[.tmp 6],yB 7 0x17d6b927192d09c c140_1⟩
def c141_2 :=yI 19 0x9ee3fa1b608e88707de941dcd1ab47506f3fddb1a70479431a63d42c56c8398b777844a3a12565ee542e0d4630ee55029ae175583b316cbc4cd71eba7c4f5b65c59d36f2b65bbbfcd6707793d52909c (.i (-1)) (.callv (.t 11) [(.t 15)])
def c141:AFn:=⟨2,19,[.tmp 4],(c141_2)⟩
def c142_0 :=yG 9 0x10c9597ec92a6e48afd099e050862de8caf3fc (.i 999)
def c142:AFn:=⟨1,9,[.tmp 2],yB 3 532422217884 c142_0⟩
def c143_0 :=yA 9 0x38583d281518ef9e3823589e75ced7e85e147044909c
def c143:AFn:=⟨2,9,[.tmp 4],(c143_0)⟩
def c144_0 :=yA 9 0x38583d281518ef9e3854669e4680b0a85e147044909c
def c144:AFn:=⟨2,9,[.tmp 4],(c144_0)⟩
def c145_0 :=yA 6 0xafdb17ccbc8d82122e9db2da1fa746daac1e12c
def c145:AFn:=⟨1,6,[.tmp 2],(c145_0)⟩
def c146_3 :=yM 32 0x157c9c723b0ebf13f6891fde93e677957357883f7df072092203184fedbb702a9b8d3f047627110945e002da80b76e07b52bae6a48e6dd212deb1e5a22c1ebf9110d7375cd6f6e47f6824d9990dcd2a9948bc6d90fcda7ba5e11a4e7ad7fc120fe250 (.callv (.t 16) [(.c (.str [119]))]) (.callv (.t 24) [(.c (.str [110]))])
def c146_4 :=(uF (fun a b c=>jA 45 0x4c55fec69f2082ac936114949b62baca198fdfc7d93c5e31fa617d9109916d3b8def3db63503dbe3b817ec 1 2 0 [a] [b,c] []) _) (.i 1000) (.callv (.t 32) [(.c (.str [100]))]) (.eq .bool false (.t 33) (.t 37))
def c146:AFn:=⟨1,45,[.tmp 2],yN 5 0x3406d368e5e5807ec2a8817ac1e12c (.mkClo 191 [(.t 1)]) c146_3 c146_4⟩
def c147_0 :=yE 8 0x97181ddb1483dc310daf60ea68fe0a697dc80c68f073dd106732334e10 (.eq .slice false (.t 3) (.c (.nils)))
def c147:AFn:=⟨1,8,[.tmp 2],yB 3 532661096604 c147_0⟩
def c148_0 :=yE 8 0x97181dddec2001f91245434d4fbd7c7f08080c68f073dd106732334e10 (.eq .slice false (.t 3) (.c (.nils)))
def c148:AFn:=⟨1,8,[.tmp 2],yB 3 532661096604 c148_0⟩
def c149:AFn:=⟨0,3,[.tmp 0],yM 3 0x119018f8aadaabbcd2d109c (.build (List.replicate 192 (.i 0:V)++[.bool false]) [(192,1,(.c (.bool true)))]) (.box 193 (.t 1))⟩
def c150_1 :=yE 12 0xbf78445aad9b5e47d329f5d92631a393cc94795523553d377996bf3a15b3a2b72f24c660f7f71bc (.eq .ptr false (.t 7) (.c (.ptr none)))
def c150_2 :=yM 17 0xcd9a94df06f4550fbee896b2a633a13fc .mkMap (.build [.ptr none,.i 0,.map none] [(0,1,(.t 12)),(1,1,(.t 13)),(2,1,(.t 14))])
def c150:AFn:=⟨2,17,[.tmp 4,.tmp 5],yC 6 0x13c192e1bcab4916ca2112c c150_1 c150_2⟩
def c151_1 :=(uF (fun a b c=>jA 10 0x8c45cfe76bbd394b0b8afb87b36ec705a76066f1b358e0ce2c1b44bc326fc678ff53d12c 0 3 0 [] [a,b,c] []) _) (.eq .ptr false (.t 4) (.c (.ptr none))) .mkMap (.build [.ptr none,.map none] [(0,1,(.t 6)),(1,1,(.t 7))])
def c151:AFn:=⟨1,10,[.tmp 2,.tmp 3],(c151_1)⟩
def c152_0 :=yM 5 0x3b772757ef97fda60c0a6b542bd60109c .mkMap (.build [.ptr none,.nils,.map none,.int .u64 0] [(0,1,(.t 1)),(2,1,(.t 2))])
def c152:AFn:=⟨0,5,[.tmp 0],(c152_0)⟩
def c153_0 :=yE 10 0x200e63aa47f8a0a471f77c586c703db9f4353512b9d45480fe634e10 (.eq .ptr false (.t 3) (.c (.ptr none)))
def c153:AFn:=⟨1,10,[.tmp 2],yB 3 532183339164 c153_0⟩
def c154_2 :=yA 27 0xfc59adfe691a481ed8cb5bf31a4c4e685d388a30fbf37d9a452e857d2faa07cb13422dd3d3d3e94739a0076dd5f372aebf42d26b22e3aab27e0de12b2eddd864ff7e9de6013545b52a214e35846b255b275293efdc01b7e61ff4e27ccb1e72f028512c
def c154:AFn:=⟨3,27,[.tmp 6,.tmp 7],(c154_2)⟩
def c155_2 :=yE 31 0x109069c3839694682a6f9fa11246e2331b7ec460b39a592832eab8266fa2521ab288457b3749c2df714ad488c47f4e4037d7578c569c5f33dc4ed03d2297d2f2cf62ad81364e2a624483b2aa19a458136c889db795e3e78ff5ac (.build [.i 0,.i 0,.i 0] [])
def c155:AFn:=⟨2,31,[.cellN 4 3,.tmp 5,.tmp 6],yB 7 0xa38adf88142fa04871de8c391bc c155_2⟩
def c156_0 :=yA 16 0x6c4132b4e25bb487bb23567547f80925cb571647498a7122234053336cc
def c156:AFn:=⟨2,16,[.tmp 4],yB 5 4789558881718428 c156_0⟩
def c157_0 :=yA 9 0x10c959813265cfeb861d253d68f7535cd2f3fc
def c157:AFn:=⟨1,9,[.tmp 2],yB 3 532422217884 c157_0⟩
def c158_2 :=yA 27 0x17da885166c8ffac6240bc5d8c35b9b1c396e1066c238a58ec2fb4a27bffdf59bde45d0889bba0b94a6f33ad6e82d52fe7f9ea6041fdd21ea49657e45a200694e39190fb4ed546b68c16f325e6f2fcb9575e955b8123b52db90
def c158:AFn:=⟨3,27,[.tmp 6],yB 7 0x17d6b927192d09c c158_2⟩
def c159_0 :=yM 12 0x28acf3629c132e18fa91427e983a6c4f35b1616f5ac (.eq .ptr false (.t 3) (.c (.ptr none))) (.eq .ptr false (.t 9) (.c (.ptr none)))
def c159:AFn:=⟨1,12,[.tmp 2],yB 3 532422217884 c159_0⟩
def c160_3 :=yE 65 0x30e3cf4e01704c9a6a2cd5452b2b09a4d669593a403c9a09d7614ba9b40d8a4eea1fa0c8899c391881e013fd79930e2ee0cb37f03d09a6c4a02f8de417ef6e8390fbf587f7e9760bb8dc504956c2f77af4f43939072c283c9165c2dd910640263016ced7148c (.mdel (.leaf (.int .i64)) (.t 60) (.t 61))
def c160_5 :=yF 36 0x1428e12695f7cf23c98ca884b77b7cb663167d3761b462b0424ff377267554d89f1242461fe34c66b244324a23cc172111c289ad3133a54bbde1e8d636b5fb8b3a2b32d83d389a65ea8bf01dcd14862a01e0fd967c4ec6e67713ac8400ea63004860cc6910 (.lookup (.leaf (.int .i64)) (.i 0) true (.t 19) (.t 20)) c160_3
def c160:AFn:=⟨2,65,[.tmp 4],yB 5 4789558881718428 c160_5⟩
def c161_0 :=yG 12 0x18b51b7ed48c65fcce1c192303fc8e327afa30add6cbb4c04c32885c560c065b90 (.int .u64 18446744073709551615)
def c161:AFn:=⟨2,12,[.tmp 4],yB 5 4789563261161628 c161_0⟩
def c162_2 :=yE 41 0x296b9e2ccac62c7d8f7da7445e0f9921f8b2482360c446ad0ad4b5f69b84f4c53ca5be52582bd638c4e30ebb6c8016b0cfb508da5d05f285af678ddf3cdd971bd7c7365e6c91e4a7c0bab87c9ebf07825f53228dc9ba97af5249c2db00a225dc47032dc21b2af063d307298a612d33fc (.build [.i 0,.int .u64 0,.int .u64 0] [(0,1,(.t 30)),(1,1,(.t 34)),(2,1,(.t 38))])
def c162:AFn:=⟨2,41,[],(c162_2)⟩
def c163_3 :=yI 38 0x6c0c87991d32f171852702492cbd4b79b92d1ead2c45ab398859eed475fe8af5874bf78c0c0355f0cbee0505027e7f3fbf146b83794f1dd07af169719ff940a6f3c8fe5009c2cbe40044db8bb9431117edde2a9419da44816c5ba4e3387375efb30e5393cc8345c845aa96e702deff9ae0b8ad9210f19a686e033e9f00613a140f95f457312c (.i 30) (.lookup (.leaf (.int .i64)) (.i 0) true (.t 13) (.t 15))
def c163:AFn:=⟨2,38,[.tmp 4],(c163_3)⟩
def c164_1 :=yA 15 0x967055c9ead43241fb57cf5f5982452673604e721ffe765cf1654c9bc8f54894b48188df0c9b88276d5b5dda3599d7f30412a712c
def c164:AFn:=⟨1,15,[.tmp 2],yB 3 532183339164 c164_1⟩
def c165_4 :=yG 42 0x489e401773b42a0a5d2d4dfad861bb81d8f7f1579ef62345fbb91b40dcae611374c8c13a9254050cc1087087752b23f14f93a07baa51bf97e23c633f1559e789522032494da046969ad5330f8389f486840d3df1b37ee92492f5fed5c5a147e6c55f613c44eed5ba3ee74396e236f78034ad04813a7a37b4f39e019ea738e3c2cd3b34c092267b6c9c77d70728bc792e228a6a2bf6250 (.int .u64 18446744073709551615)
def c165:AFn:=⟨3,42,[.tmp 6,.tmp 7],yB 8 0x1da1d5bb17763c5512c c165_4⟩
def c166_5 :=(uF (fun a b c=>jA 72 0x6a43dc928c46f9102b84043248b98e6575d26a17cc80bcdf138e870dd18e815dc53fe0cd8a71b1c073b60c949b1ad1f828733ced683f0cd234558f0fba75d8f24e5d62c2737de22bbc3cd964b95a118c9fe34c4a012697a993ba08a3069490eb0aabc10116954808a451d5b66e58fb84f74cc9ef8b4125e1209d704cb22acaf58a626b0681d7fb922bf287492a9cfda12561e0 0 3 0 [] [a,b,c] []) _) (.lookup (.leaf (.int .i64)) (.agg [.i 0,.i 0,.i 0,.i 0]) false (.t 61) (.t 62)) (.field 3 none (.t 63)) (.maxI [(.c (.i 0)),(.t 67)])
def c166_8 :=(uF (fun a b c=>jA 101 0xa7491379ae1624364fe0ea4d7e622b5c5bcdda190c857beb3802b7d2e5e99014406a876536e37c7efb91734b0cc56d3f8b054cf9b057c2165cb2f72b2234a62e54529417760b861211b8517e0c9478b6a037b6da4675d4c8858fc1871693198e59eaf0752955671f66d4f8e218eff84419e6abaee488478cc168c7b70c26b0d23123f9130f6d4d0 0 2 1 [] [a,b] [c]) _) (.lookup (.leaf (.int .i64)) (.agg [.i 0,.i 0,.i 0,.i 0]) false (.t 94) (.t 95)) (.field 3 none (.t 96)) c166_5
def c166_9 :=(uF (fun a b c=>jA 36 0x52365550155204ae624584e04422f4fd88e2aef6f7ac0f0f0eae0fb8678127bea79d112252d0218d2c8c5e5bbd8808048ce7d077885e708659a0a66c78883c93a89844ca8154d0 0 2 1 [] [a,b] [c]) _) (.lookup (.leaf (.int .i64)) (.agg [.i 0,.i 0,.i 0,.i 0]) false (.t 26) (.t 28)) (.field 3 none (.t 29)) c166_8
def c166:AFn:=⟨3,101,[],yB 15 0x35a692eafe22c85c96946a8da20cb2909c c166_9⟩
def c167:AFn:=⟨1,4,[.tmp 2],yI 4 0x3e74bc8c76a4aa590df662612c (.nilfn) (.mkClo 212 [(.t 1)])⟩
def c168_3 :=yF 48 0x468bc2fee28b46a89f51619588940a3a1d6b82590147b828957b2082eaa44cc6bd0773242a182fc290d7cae422b2574ca0516611c8df86a8968409b68da93955456bbc27442eaa4c6157202039c4afc23923fb81103bcfe3cce610a8e9129b401ad46cfa2c84fa40c948307a46138ffb8851107e1a45b14fc18dad82ee645e6afe8ce26e752f39c97c7ca0f6cc (.lookup (.leaf (.int .i64)) (.nils) false (.t 30) (.t 31)) (.label 0)
def c168_4 :=yF 18 0x5d2102c583f22bb0a4364c5f3764eb8e91a (.build [.i 0,.int .u64 0,.i 0,.i 0,.i 0,.i 0,.nils] [(0,1,(.c (.i 2))),(2,1,(.t 13)),(3,1,(.t 14)),(4,1,(.t 15))]) c168_3
def c168:AFn:=⟨4,48,[],(c168_4)⟩
def c174_0 :=yI 8 0x1290ec49185ab4ce522a1666af3a2065a1531f24c (.nilfn) (.mkClo 221 [(.t 5),(.t 4),(.t 3)])
def c174:AFn:=⟨3,8,[.tmp 6],(c174_0)⟩
def c177_0 :=yA 9 0x10c959813265b2d157f935baf252e6dfd2f3fc
def c177:AFn:=⟨1,9,[.tmp 2],yB 3 532422217884 c177_0⟩
def c178_2 :=yM 23 0x136ad150efb704da1d30f78de3c5ee86e8215b86015e7522fe91d4dc0b4d8fb1abc0338320df39de676190b6b53eea5625c1226b3741550eadbce9af88f64f8dc716f72613b2a5eaf00698c854877f5d4f2dc (.ixA 96 3 (some 3) (.t 8) (.t 9)) (.callv (.t 17) [(.t 18)])
def c178:AFn:=⟨2,23,[],(c178_2)⟩
def c179_3 :=yG 44 0x7eb3c8dbcc362e068cb21aedd28fb5b3d0b09ccf4f9848f653fb10c34151ee79f9b84bd362afbbdacb3d5625c8348222daafc1c16a879282b57a03133ca8daefe9daa6d16575919a33c32c08d42ed68b09ccd9aa617c6bc89f4e6cdc56f389b8b2546627d0305f0caaf3ed23359f1346f17f3055a61523330f3317477752c36c26312829bfd500322166111138eff48c (.i 114)
def c179:AFn:=⟨3,44,[.tmp 6,.tmp 7],yB 8 0x1da1d5b8829afa5512c c179_3⟩
def c180_3 :=yA 31 0x163582b14af67cc6f28f67281127abc7df00f3f4dfca3939d1008bbaa67fe453b6a4de66b85f7984936454f70043831b5ca8c7baf72153ee9aae27ae9162c79209cad25fe500a6d495940a6e183e9aa0fe02409c88d9a0dfcc914d7bc8d57b09ca21e5040bce00344a80b0ff48c
def c180:AFn:=⟨3,31,[.tmp 6,.tmp 7],yB 8 0x1da1d5b8829fb95512c c180_3⟩
def c181_1 :=yA 18 0xc76ebc96030c854094f365fdeb0676da6c0d34f36f814739feb5c380316df9d8df113365cb2acd8b9f303908f11948c
def c181:AFn:=⟨2,18,[.tmp 4],yB 5 4789558483587228 c181_1⟩
def c182_1 :=yA 18 0xc76ebc96030c854094f365d8d74696baeb78c97dfd6e41d5505cdd6be73cf9d8df113365cb2acd8b9f303908f11948c
def c182:AFn:=⟨2,18,[.tmp 4],yB 5 4789558483587228 c182_1⟩
def c183_4 :=yA 41 0x37c9d29c042804c226315cb6033de6a49da356292564f1b6f5c7bbaf5d8e8297a2be1554e83c9a9f4f1651fa758fde26f927f7ff47f855697f4983780191454fe3b7da8e0c56202ee638331727d91ea018839980d1fad9c67b1436b177d500f4ed8c265d20bb7cbf9b3cbd7fa86746663aaaf0a4442cbedde9ac2ce4e5c34e1a6bd69a2ce8bae940af161a4d2bbb48c
def c183:AFn:=⟨2,41,[.tmp 4],yB 5 4789558483587228 c183_4⟩
def c184_3 :=yA 143 0xb7109f41aba867fdb1fd839c739fd257473ee64ae0a2e48f20957aa63db307adc3d851b58ee662fecef484ae1ec291c2fc3c5bcca6a72e9ae326da59a5f8e401e8b05bab00bf4d6307baed5c50f5d2945a68e8cadb025cb6d04ba9a6f64a4495b35c1798001da35f469223e6e0b3f9e28164bd4f3c0d52cc3ab366b20b2c6508874ea620e68cac97ee5632ae9dfe8b0c55580d85da9bc9c8a8
def c184_8 :=yG 87 0x20b32d8a7da757ad42ff828bafd5d3a06052d37f638da859b91e170fe0b9dcae01739d3455b4ad4f485df862cdbc92773c1fbcac360a6a50558b0eaee39b2c0e3783ca1128790094e74cfb349d838859631f1b118959701db2840b9da0bed63c947b227167e2b6eb2350dd777e3a0f9066a5419dd24c (.i 1000)
def c184_9 :=yB 53 0x5594d1cd5fc4cd6cc0a4383126ad82673125e15598b1a6213517f87fc07c618299e897142350e76ebad5019a5a2af393cd794d84e0f505927d800ab836c5c63bc968722659e322f915cf63cfda1e436f03f2af29a3c218f3d20a4751e2416e6aadf43845ec0a302c668c c184_8
def c184_10 :=yC 101 0x10cc6eb6440544c114c5906a51db57f31dcb2782307926ea78dfafaea80f882989d816fd66859e49a888599535948bbe9d31f0974a252cf0ba36edd85ea3d75e570edf97a395e5a7b9199db3bfce030 c184_9 c184_3
def c184:AFn:=⟨3,143,[.tmp 6,.tmp 7],yB 8 0x1da1d5b8829afa5512c c184_10⟩
def c185_0 :=yA 17 0xbaf427184b8fc522a6ba329198a7cea395028e593195ed3055ca9a181cdbab11db93fc
def c185:AFn:=⟨2,17,[.tmp 4],yB 8 0xa45c4dc18cc1ea998cbf670858aa328b3e25932d109c c185_0⟩
def c186_2 :=yM 20 0x1dd18fdd07632213b64d66d78c82e824ec891c7c3c6bc83317cf9b50408326f4db668c84976a4f404bc11764ed039e6ad3c85b8f3b25e7a8bc0a78a2a603940fa137cbab86925a6509c (.build [.i 0,.i 0] [(0,1,(.t 14)),(1,1,(.t 15))]) (.callv (.t 13) [(.t 16)])
def c186:AFn:=⟨2,20,[],yC 6 0x28408e462d438fd990403a (.label 0) c186_2⟩
def c187_3 :=yE 48 0x1c4e3b639941ec0bf06b47fdc8cbd70fdec9fdf4e3ee61fe6532e14f50135241f703921311c20220b62aae0d82c7d71fd81ffe7ad1e5c9633cccb641c20f3a5ab66b1ee3a66b1b2a39cff2d6c93e2dca33f23ca198875a0e3d6c8007aefd3804fe3f476c02df4f1c37137c5e4c54d0 (.convInt .u64 (.t 42))
def c187:AFn:=⟨2,48,[.tmp 4],yB 9 0x786d36ca26d343898a3ad1f7b0df039c9afb909c c187_3⟩
def c188_3 :=(uF (fun a b c=>jA 58 0xe39be109433537092b3a7a39fde5cfd406d02cf4f7effa99ff568e399de947c6351696b76142686756c888d7fe6d20412cb7413a13b2cc6b928a80c60367efe29359254c025826f3c5ed19936d46a0c123f48bc71ba9cc05441598196082bd6b0a9d5f4537328a3bb6b2a1246e425da81647893fde0ffa96ea91587d21850 0 3 0 [] [a,b,c] []) _) (.copy 1 (.t 33) (.t 34)) (.slice 1 (.t 32) (some (.t 35)) none none) (.convInt .u64 (.t 51))
def c188_5 :=(uF (fun a b c=>jA 18 0x1d36e5883e6236364ac6dfc4d40f5ddb82cc7adf98f95a381751f3af917440b1eaf568ab3a036dfd5c00c50260a4e6bb748c 0 2 1 [] [a,b] [c]) _) (.minI [(.t 9),(.t 11)]) (.slice 1 (.t 7) none (some (.t 12)) none) c188_3
def c188:AFn:=⟨2,58,[.tmp 4],yB 5 4789558483587228 c188_5⟩
def c189_2 :=yI 19 0x27b8fe86d823a21c1f7a5077346ad1d41bcff76c69c11e50c698f50cef1ace0ed621dab6bb6be5b0641e11f7debb919809b5a603316cbc4cd71eba7c4f5b65c59d36f2b65bbbfcd6707793d52909c (.i (-1)) (.callv (.t 11) [(.t 15)])
def c189:AFn:=⟨2,19,[.tmp 4],(c189_2)⟩
def c190_2 :=yI 19 0x9ee3fa1b608e88707de941dcd1ab47506f3fddb1a70479431a63d42c56c8398b777844a3a12565ee542e0d4630ee55029ae175583b316cbc4cd71eba7c4f5b65c59d36f2b65bbbfcd6707793d52909c (.i (-1)) (.callv (.t 11) [(.t 15)])
def c190:AFn:=⟨2,19,[.tmp 4],(c190_2)⟩
def c191_0 :=yA 9 0x25c6d2998981d479565c57efdba834e8983d78808c703a709c
def c191:AFn:=⟨2,9,[.tmp 3],(c191_0)⟩
def c192_0 :=yA 9 0x38583d281518ef9e3f9c7a9740e6dd285e147044909c
def c192:AFn:=⟨2,9,[.tmp 4],(c192_0)⟩
def c193_3 :=(uF (fun a b c d e f=>jA 15 0x10cfe5ce4de74b0056b67386b8492d57a82c8a98fe86f9ed712ae73068e026c391510ce1794dbde1e450f0ab01050b0a3ba7b68abece95ac5c6318d7ae07f8cfabe3f41f6e39589297b28da3ed6886cb785188b219ef7419b6d775757fd2b58e15c25e8bc4d4750 6 0 0 [a,b,c,d,e,f] [] []) _) (.str [119,100]) (.i 6) (.str [119,110]) (.str [119]) (.i 7) (.str [110])
def c193:AFn:=⟨1,15,[.tmp 2],yB 3 535408201884 c193_3⟩
def c194_0 :=yM 4 0x2b874f2bfc1949b41bb3266909c .mkMap (.build [.nils,.map none,.bool false] [(1,1,(.t 1)),(2,1,(.c (.bool true)))])
def c194:AFn:=⟨0,4,[.tmp 0],(c194_0)⟩
def c195_3 :=yE 50 0x11c6d9fd62b093fe3b328dc57ccd08092dacd7227cf384dc540bbc0552b09ce78180ad98953efa600ef5297163cb261e397542675345e8cfc62bc18bf372085d2991c46d6323b202e6df288d402a084a7883db477c521908af489a26a728e417d16ba40816d1ace6ce9faef9b712a23a00141419da7838888ad0 (.lookup (.leaf (.int .i64)) (.i 0) true (.t 20) (.t 21))
def c195_4 :=yF 16 0x52ee93521f52f170e0efb04ef390f7a47d2911cfaf8f8c8776e7f4e3ae664c6910 (.build [.i 0,.int .u64 0,.int .u64 0] []) c195_3
def c195:AFn:=⟨2,50,[.cellN 4 3,.tmp 5],yB 6 0x80e21394325e34c59d2112c c195_4⟩
def c196_1 :=yG 15 0x15497e7d5327ed36424fdf2bce3318d0463fc738893564fdf4f43d5a657ddf541012eb4c29709e13c4adeeb2e134810e4efce030 (.int .u64 18446744073709551615)
def c196:AFn:=⟨2,15,[.tmp 4],yB 5 4789563261161628 c196_1⟩
def c197_3 :=yM 31 0x4a1c6ee6b46bd77e99a16433acd990e0d67ddcce6d1ee41a2d8e889e1ef5243f8b3db72278223fb166be3b691240ebf9ce900a357b1020af922f482ba2b59fb49d5c573f4355dbf7eabf9bedf374f3f2bf0b664648710bef91e24a7c8c2a7372344077584ae3113f954d0 (.lookup (.leaf (.int .i64)) (.i 0) true (.t 14) (.t 15)) (.mkClo 231 [(.t 3)])
def c197:AFn:=⟨2,31,[.tmp 4,.tmp 5,.tmp 6],yB 7 0xd4bb56581676ddd1a0b48f924c c197_3⟩
def c198_4 :=yM 66 0x1d5a252977f0f6792a3bc51c334c04984e4f3f41d3335dedc50239c052fbc223bdc755f374046958846018e5a6ffc374d4f77ef5fe40dd9f9dd72edfc379616c0dde3e1b08407efea6d9fdc55b5265df719d619f1ced9f1c8194b403623d7bd3c010445185b9d082dc7ff1afa806cbc642faa78f0b65a6eca9fca031d70ffb2c274f906f7bc98951c (.slice 3 (.t 43) none (some (.t 44)) none) (.mdel (.leaf (.int .i64)) (.t 51) (.t 52))
def c198_7 :=yF 32 0x315b0816f1aa0b61b56920d2cefa282fd68836e63df8874af3075fe3550eabbd2ec6d87f5282b2e1751be278eeb4b7a4518cd04c0735e410da3092cc41971c4dae7794d67f56f7d40fb50781c193510128fcde1b4c4c7a151c (.lookup (.leaf (.int .i64)) (.i 0) false (.t 23) (.t 24)) c198_4
def c198:AFn:=⟨2,66,[.cellN 4 3,.tmp 5],yB 6 0x80e21394325e34c59d2112c c198_7⟩
def c199_0 :=yE 11 0x56c4ca59f04b6fe8b3d1466fc6d04133fc (.mkClo 235 [(.t 3)])
def c199:AFn:=⟨2,11,[.tmp 4],yB 5 0x5bbfb66e8e704ad12c c199_0⟩
def c200_3 :=(uF (fun a b c d e f g h=>jA 33 0x3f3e50432389f7926e3be33389b8d9c4079f123655bf22e2488f8a912e9fb740c6b4add97320375d1d988879e2d08f5b59649fa0347ed9eba29153ab6f03975f587c630213b84e22d3f933b5fb614ef0398055e1df36c 0 8 0 [] [a,b,c,d,e,f,g,h] []) _) (.recap true (.t 0)) (.slice 3 (.t 8) (some (.t 9)) (some (.t 10)) (some (.t 12))) (.recap false (.t 17)) (.slice 3 (.t 20) none (some (.t 21)) none) (.slice 3 (.t 23) (some (.t 24)) none none) (.slice 3 (.t 27) (some (.t 29)) (some (.t 30)) none) (.clear [.i 0,.int .u64 0,.int .u64 0] (.t 31)) (.recap false (.t 32))
def c200:AFn:=⟨3,33,[.tmp 6],yF 7 0x3da4c7d7b709c (.recap false (.c (.nils))) c200_3⟩
def c201:AFn:=⟨1,5,[.tmp 2],yG 5 0xb0e6b2ad1b4f4040467ad9aee509c (.i (-1))⟩
def c202_0 :=yE 12 0x7a06da27d437bfc5240a0879de457dcd1d39616f5ac (.eq .ptr false (.t 3) (.c (.ptr none)))
def c202:AFn:=⟨1,12,[.tmp 2],yB 3 532422217884 c202_0⟩
def c203_4 :=yB 45 0x1f9c2a9b18a6aae6eccffbba2358bd7cfbf7303817b6bf86b8890c5bdd75710d3fb74f3c16020d5ff477a556324be5fe86e5cb6fa54a541b2a8679dde17c68c1116a20ecd4c2affe05fa14589939d38a9807a105caa99c3914d5f0b7d5d4e8385d2080d34f5fe1f427f2cd0008eed2407edc0f44ffb4989a5d271fd3937c0e9586b7ecaec42cfeabf07c2602cb8a3165f0de6f7ed3a2f17d5a (.label 0)
def c203:AFn:=⟨2,45,[.tmp 4],yB 5 4789558483587228 c203_4⟩
def c204:AFn:=⟨1,4,[.tmp 2],yI 4 0x3e74bc8c76a4aa590df662612c (.nilfn) (.mkClo 237 [(.t 1)])⟩
def c205_3 :=yE 39 0x2711d58091bf64cf40e01e6c4089bf77b92a5aab035236f632aa990db9266f588c71920ec5b5543670e8573096c39725815e2bd635e0675715371bcaedec5eaf247df537e73f0b1fa8e98d47de04269f73d7d0c1341d9ac6b6e2921c9e1dcff97747446a84ff20124e095d5f7a8b9742c00002002d6201806893bb3005d37d8c04111bfce10 (.build [.i 0,.int .u64 0,.int .u64 0] [])
def c205:AFn:=⟨1,39,[.cellN 2 3,.tmp 3],yB 4 0x54eba62f7879623bdad12c c205_3⟩
def c206_2 :=yA 18 0x52a0a0db45e28fb0b9c7115015d92541b80d4f5098a15cac93e8e848677275a6847a44767633dfeeb87b2d2eb13629d4ac6928aed53de6b1f6fec4aa9161cfc8266a9489fd4d0
def c206:AFn:=⟨1,18,[.tmp 2],(uF (fun a b c=>jA 4 0x768dca63cca3b1b2b2d09c 1 0 2 [a] [] [b,c]) _) (.int .u64 18446744073709551615) (.label 0) c206_2⟩
def c207_1 :=yI 12 0x2643352620b67638a540a57d9e7a2750bfd5e31112406c68b5c9a876cfd96af7f0a1da47d25a97ed46030 (.int .u64 18446744073709551615) (.minI [(.t 10),(.c (.int .u64 1048576))])
def c207:AFn:=⟨2,12,[.tmp 4],yB 5 4789563261161628 c207_1⟩
def c208:AFn:=⟨2,6,[.tmp 4],yI 6 0xe5fb396e23889bd7ad9a4fec438fe311bc (.nilfn) (.mkClo 239 [(.t 3),(.t 2)])⟩
def c209_4 :=yI 100 0x27de15251c671520fc7a6b9923e3cc1b1709753816705cde0f629f140ca3fbba118871eed3f8c5c9142ed7bfad6b21260e6a8569206821ce1003d2a6c1349a285943cb2a11c2ceb634a4c2561caaeca382d6234b2d7eb7d73bd95b56c2335ac (.i 2147483647) (.minI [(.t 90),(.t 95)])
def c209_5 :=(uF (fun a b c d=>jA 69 0xb7a223cc00d9a6d0a7f69639be4c23d8ee855cb7666435848cdee08cab5822bbc149b68fa32c37327eb02b3014d4aaff2a8a232e9baefbada86539d73c8e46ea9aa9914c8a82b943602346a823c176facb3ec41ff0f619c4faa547fc1fdfc8dac89c822d987c40018b2cadc0548de95eee46d555d11b6d25bfb3c9e8c4755aaf5ac 0 3 1 [] [a,b,c] [d]) _) (.minI [(.t 57),(.c (.i 2147483647))]) (.build [.i 0,.i 0,.i 0] [(0,1,(.t 55)),(1,1,(.t 56)),(2,1,(.t 58))]) (.mput (.leaf (.int .i64)) (.t 66) (.t 67) (.t 68)) c209_4
def c209_7 :=yB 34 0xd31afe354c373ffb1f713d27cd75d537a72d7ef84d3a6391e2b447f40ef363f147b1e5650259a98f22135b458081bb79efa3b04fe6cff194a50d53de665b8344c305f41a40bd434c4a574aa330aaa7fead09c c209_5
def c209:AFn:=⟨5,100,[.tmp 10],(c209_7)⟩
def c210_1 :=yA 22 0xf07b26e57f718fd0684435691beb41a9b6598e4fe8ca5cf509f955f084bb548b122efa981aac3c9d60cca54c775df8cdb5b768f03c0f7ce68668410
def c210:AFn:=⟨2,22,[.tmp 4],yB 5 4789559279849628 c210_1⟩
def c211_2 :=yE 23 0xdc2a26e76acc5c32d1ed8f6e8ceca8d404a6dc72f139f3d7929fa3ad41e6972fdb0bba6371b8ba1e78d2dd119ebb2e36226967669749ec0699fe8602a3f34c4c310355773b333c16aabae4bf896d8db50ddd9fc12ace126909c (.minI [(.t 13),(.c (.int .u64 18446744073709551614))])
def c211:AFn:=⟨2,23,[.tmp 4],(c211_2)⟩
def c212_3 :=yM 39 0x6f1a66aae6febc1adaacdf9cfa2203916a863e278ea7f54b56c1fce215a8aede9d810b780aeb58036dd130a2aa9969b75d9f2c2eb6f8d88af3daf963366ce7c7956a528ab414810b597129f522dbd7e41067df2ec002b0ca2b2f5b2df7b1b27c6232cd6729a6d1d7c0c18f2e6178b69ea8e235a60e99141753fc (.build [.i 0,.i 0] [(0,1,(.t 32)),(1,1,(.t 33))]) (.callv (.t 30) [(.t 31),(.t 34)])
def c212:AFn:=⟨2,39,[],(c212_3)⟩
def c213_3 :=yA 31 0x9827ac174b5bc1ea2da21bfa13649a117da35a72df4d2df9e794e4699c9a5acbb95d20a3988d65087883aeafbb8206b474fdc1df6c45a21407fd9c8937bcf12cfe9c47fb04b4a87959d188c008b42c9d78a986dc02209c57a079236b3a7c21d1ebc220dee868988a4f0ef5c5243c0371881d91396000cab79c98f96b1ae010709c
def c213:AFn:=⟨1,31,[.tmp 2],yB 3 532661096604 c213_3⟩
def c214_5 :=yE 59 0x2ca3b63bc54595f933be2918d1ec65db37d4ad84347291250049a35bb7c994aa789d406aef5145bdfea5202aa8cef2870f4635323949e107044dd0590a31dc43d9993ebd616839de36ad0a38279faf96342fe2195bb4411ce19a86489163105c692dcbc2de701f0913c11ac242d263d1e2e2e21c53d9f456b26badd66bca3c722d7f03b18e33098481f002c5623d8cf07dce10 (.lookup (.leaf (.int .i64)) (.agg [.i 0,.i 0,.i 0,.i 0]) false (.t 27) (.t 28))
def c214_7 :=yB 22 0x5f7b9f01f4255355e173b1ecd54adaffda0015a0ca65f31ceadc8a7eb75a50bdb89a4ae5569fe9cfe887fa7f91040501550c8e17a3f42d911fbbdb47b05ce10 c214_5
def c214:AFn:=⟨2,59,[.tmp 4,.tmp 5,.tmp 6],yB 7 0x1c2e6244b8d68d5a0c11bc c214_7⟩
def c215_3 :=yK 56 0x9dee269ffe32500fa408799d4f3209d275766285519901aa45eaa7ef986d93d1e34b2cb32200c83d108e3fafe7644f4bd53ddbeed9831d3543e6adec082e3093ed0c80c45076f78d46f036d054fd8eb85dd02943abe413d31c9f2a9692a9c2d031820b0e5f96b2c6df3c361ada2459fd3eb318d25db37b4beb8c716fd5500f3e25773ae335b5faba6103191b5828bac5b (.i (-1)) (.i 14)
def c215_5 :=yJ 59 0x528f57b4b952b1354e1ecc62fdd7d654970e289e3aa68f37b9c1ef0df05a00b0cf559da56bd7bfac309c97e67c103e08ca136d619905deddd1d13fa59f9fd1d36c (.i 6) (.build [.i 0,.int .u64 0,.i 0,.i 0,.i 0,.i 0,.nils] [(0,1,(.c (.i 3))),(2,1,(.t 10)),(4,1,(.t 12))]) c215_3
def c215:AFn:=⟨4,59,[],yB 8 0x6fc58672f0338f7cc512c c215_5⟩
def c221_2 :=(uF (fun a b c=>jA 43 0xa5264c53cef9c9afb351e5bc07fc588be4bbe0a9fddde840513f80d21ac25b41bc07848b17a9b9b0a2e3282133af682bc76a966f72600cc88ed78ada167bb1e523b97622a6a35af3a2ee10c958d255d9af2bbd24629659178086c8c4b0460228d004da1fbac66f48c 0 3 0 [] [a,b,c] []) _) (.minI [(.t 23),(.t 28)]) (.slice 1 (.t 19) (some (.t 20)) (some (.t 29)) none) (.callv (.t 31) [(.t 32)])
def c221:AFn:=⟨4,43,[],yC 9 0xab6e8906737b7b170117b38654191c2213c3a (.label 0) c221_2⟩
def c224_2 :=yA 43 0x1405424e7f5ae194421867bc62d3f59f9bbdf2b3742dc58da3f1ffee0d60df9133534946010c9d7aad8b0d2a76f0998b4449fd37944c612161ba2ccecb814a2f9eb99ccf6be2021f0e9e0c2229a7bbf5913f03c4a5697cc9762d2121f92c39c0a038b574f2aff40b998301b42718bd47db3bb8c09c457fce030
def c224:AFn:=⟨2,43,[.tmp 4,.tmp 5],yB 6 0x16357295216ca2112c c224_2⟩
def c225_1 :=yA 25 0x3814e9431792cd33269798def1b1b4560c3b67a979e29ee319772f410e2fcec4c84f7f01fdc5cf5f4334985db38e9277eaed9781d56713d1a9195ac
def c225:AFn:=⟨3,25,[.tmp 6],yB 7 0x17d6b92b404d09c c225_1⟩
def c226_1 :=yA 22 0x3cc9a17969bc8be6a48d4147f834ad870ca1ad970bbd43e678434c592a9b6887bd0d6c67acebc77e92e528cbee0ba39d998616d60975f5aeb4308be9148c
def c226:AFn:=⟨2,22,[],(c226_1)⟩
def c227_2 :=yI 36 0x349129a51fbf74ef702f807cd67979d6855cda5f86ef580d6b46bf056e085aab873de0bfb61fc74f79b32a69a5ff90d6c633f595f51b7a92c0b87a3255a4b0f1893f7e2e3fc7344a461bc5d4814f695424eee08dc8f7fe87fc392299ed467f3603db3ad6c405f0d2e867164dfdb90 (.i 2147483647) (.minI [(.c (.i 1)),(.t 30)])
def c227:AFn:=⟨2,36,[.tmp 4],yB 5 4789558483587228 c227_2⟩
def c228:AFn:=⟨2,8,[.tmp 4],yA 8 0x4ca912ac4b735d54fd6c8f48b54335932d109c⟩
def c229_3 :=yM 30 0x1938212fbfd8f422079232fe07232fe01fc38215734054947ec8bc24763ddf139a95351ad39d2be503947095889634a3aef9da1c2d987af3f2ab29076266fec2ae73c4e0d9313c2ce62484e297d82bc61745f86381176a64e7f0cc183cb82d2ce10 (.build [.i 0,.int .u64 0,.int .u64 0] []) (.lookup (.leaf (.int .i64)) (.i 0) true (.t 15) (.t 16))
def c229:AFn:=⟨2,30,[.cellN 4 3,.tmp 5],yB 6 0x80e21394325e34c59d2112c c229_3⟩
def c230_2 :=yI 19 0x9ee3fa1b608e88707de941dcd1ab47506f3fddb1a70479431a63d42c437d842dd60d1c72c9c81e2b8c1a5bc43ff36b88dc84649cd3316cbc4cd71eba7c4f5b65c59d36f2b65bbbfcd6707793d52909c (.i (-1)) (.callv (.t 11) [(.t 15)])
def c230:AFn:=⟨2,19,[.tmp 4],(c230_2)⟩
def c231_0 :=yA 8 0x53da7a87ae865ba3c7453b91c671d525ca6a9dfcfd12c
def c231:AFn:=⟨2,8,[.tmp 3],(c231_0)⟩
def c232_1 :=yE 20 0xace9a08bdb53c50a1c327b8dc3d515bc7ff3534bd9aa392f4a3aaf965bae2217c088f61244885548c (.mput (.leaf (.int .i64)) (.t 16) (.t 18) (.t 19))
def c232:AFn:=⟨3,20,[],yB 6 0x7ae38470bdf709c c232_1⟩
def c233_1 :=yA 75 0x52afef3a8d278bea781d375635452767cd7a1bbba195d573016f04d045737e94ab869a4134c0edb440af16572ba07ae76e514cf4c793aa89bbe7731fbee4ddbc58ced7a4d1400f38410
def c233_2 :=yB 54 0x21afddc6edef83c460828d194f8b10c291dfd4bcef5d0c7cd9ba751222e2595b81d06c8d3539d9f80b088bcd4fe0845d1cf49524ec8f21e5442ce258c9cc71c8d27d58f481d2159f3a2ad8a48fc36300ae4f6d0 c233_1
def c233_4 :=yC 79 0xbc9b8469e0c3d368614fce2a0b659a3cc9a6c75f01b0003ccfc9edd90e4c729954a0a7a076f99e61abdcb7d8eb2fe229591642783efe1716650076043d5659005aa7f3d31230bcfecb882dd42e7766ca862ff3a57f6fb7cb67fd5a (.label 0) c233_2
def c233:AFn:=⟨2,79,[],(c233_4)⟩
def c234_2 :=yI 19 0x9ee3fa1b608e88707de941dcd1ab47506f3fddb1a70479431a63d42c437d842dd60d1c72c9c81e2b8c1a5bc43ff36b88dc84649cd3316cbc4cd71eba7c4f5b65c59d36f2b65bbbfcd6707793d52909c (.i (-1)) (.callv (.t 11) [(.t 15)])
def c234:AFn:=⟨2,19,[.tmp 4],(c234_2)⟩
def c235_0 :=yA 8 0x53da7a87ae865ba3c7453b91c671d525ca6a9dfcfd12c
def c235:AFn:=⟨2,8,[.tmp 3],(c235_0)⟩
def c236_0 :=yA 22 0x8303b4672cafab72a15f18c16d934ed5f9dd5a78b1c185655f1192ecfaf38d45dff891eb9ecc31762f6c96ed22a3ac4624ba743799d03c3a8d15ebc7b641ef7906b7a08bf5da425cb8c8998b40b5708b3c7d1a8
def c236:AFn:=⟨2,22,[.tmp 4],yB 5 0x5ec5c974dd7aa61329b1bc c236_0⟩
def c237_1 :=yE 32 0x2f985afd143502616708ad7c3a04336a43c5b6eee806ecd234991693bc100632a5c9e2e5a235fda61196e503ca38ab69a838f7875f25ab625e956e535422fc1dba5d507e564f1d3a9d9681a630faa866b416eef709c (.callv (.t 19) [(.t 20),(.t 27)])
def c237:AFn:=⟨2,32,[],yB 7 0xd049c785d9f7c2957c33bb6a4d1bc c237_1⟩
def c238_1 :=yE 21 0x50101ad98d75522c5482709f5c3f9692c7b44d2735135ddca89a1a3bcd380c8647c0e910324f8f2542b2930a471fba7004683eb5c0cfb663b56746d0410 (.build [.i 0,.int .u64 0,.int .u64 0] [])
def c238:AFn:=⟨1,21,[.cellN 2 3,.tmp 3],yB 4 0x54eba62f7879623bdad12c c238_1⟩
def c239_5 :=yE 39 0x1c20a4820fd455be314090d6b57e7005d2a4211048f2cfa9c800397f8c29c87c83b56ffabb7ae9cc42a5f2ac6d44ac139e5720c79433fe83bc674fd9a4ff588bb39a8bc5b05cc0836451f3742d772e57eb20c5073f130b2a69edc835785d40141ae3acf927347f9e357cfaabc154ad262ca27e4f6ae95c6c9ccba46cc38ae1a1f7348230e221b6906108b2aeecf388501752be577a2c55c3a95ef0dec3f715ff0d5548f90b32dbfb59bdc7ff71bc (.callv (.t 33) [(.t 34)])
def c239:AFn:=⟨3,39,[],yC 2 81082 (.label 0) c239_5⟩
def c240_1 :=yA 19 0x83fadf3be2ad52a1c8c19849cfe0f55ccfb049d0793d5ba68254799372133853e25be8329c318b890803fa7fe386b2881320dd24d0c3e23cc5b90
def c240:AFn:=⟨3,19,[.tmp 6],yB 8 0x17e685f9bedcc16c67a921509c c240_1⟩
def c241_0 :=yA 13 0x2c77619e9f081215c09eb2be1f5498c141bb90ee29289351c
def c241:AFn:=⟨2,13,[.tmp 4],yB 5 4789558881718428 c241_0⟩
def c242:AFn:=⟨1,4,[.tmp 2],yI 4 0x3e74bc8c76a4aa590df662612c (.nilfn) (.mkClo 258 [(.t 1)])⟩
def c243_1 :=yA 16 0x12f5ddd256307c73679eeeccb544705a0618524229047e67c8e7a97d1ed3a347c42e3c82b001ad56708950bed69b86b93d9df2b96bcb5954d0
def c243:AFn:=⟨2,16,[.tmp 4],yB 6 0xd6f0a7a432590d786760109c c243_1⟩
def c244_1 :=yA 17 0x27eb98413b45b1d11447dd5650d94d6b4e8d05be8543ba67cfdf580449eaf6c5a402f2a18103026b0e65b90
def c244:AFn:=⟨2,17,[.tmp 4],yB 5 4789559279849628 c244_1⟩
def c245_0 :=yA 11 0x696ca03015bbfaf6c88847a75f595b1859d7cc37578aa7a7b6ad66d7466ee86c9ca64e10
def c245:AFn:=⟨1,11,[.tmp 2],(uF (fun a b c=>jA 4 0x80f1d7d1006c9f1c2beb156f6e2d09c 1 0 2 [a] [] [b,c]) _) (.i (-1)) (.label 0) c245_0⟩
def c246_1 :=yE 39 0x25fbcf831418f50f48c2c19d910131c47fcfda902b10958af7958e6ee8604025e56e49b772cd4a0af734a9470370e65e29d9f575f1a2ffed103e03e91b4ce17ea2950788ff835776ff1ca14c81c84966cb4347ead1994d19b81b068539a3bede551bfb37cc35edae5027bb5ac (.mdel (.leaf (.int .i64)) (.t 36) (.t 37))
def c246:AFn:=⟨2,39,[.tmp 4],yB 5 4789558881718428 c246_1⟩
def c247_3 :=yE 73 0x159fe9473b74d9cbddf7bbb93443fe405df9b66392f4765bd58a4ea6f470994267a70c153c8d1f4c6b78fc63fea8afbc6bb3be52546ec1756a22076ba426d53e7787c (.invoke [(51,12),(138,311),(189,318),(192,333)] (.t 69) [(.t 70),(.t 71)])
def c247_6 :=yB 54 0x769fb2557183d67759305203556eabf623ee55c5270dca520b90e29c36f99233843cd4d9932055b77befdb1429519566d4c91ddd09ccda2eb37bc4318199c5db7fa5f892809dff76c5d3c21a3811ac2cc1fbec9009c83cd50102c775487f66ba2f6c6309aaeb69d1e18bf3fe326de27c931a6406d783c2aaf0cb536be89e39a12f4736c c247_3
def c247:AFn:=⟨4,73,[],yB 7 0xa5919fda0aca709c c247_6⟩
def c248_1 :=yG 24 0x14ea0483b00e5fc3189d34037209c5dfe58b66ce4ac2f413838e3bfdc9115b12cb56ab53514a99cdc48dada7ae16b67414e08e64b1a6206ff97a148c (.i 220)
def c248:AFn:=⟨3,24,[.tmp 6],yB 11 0x327ef55cf35336d789319031d22e362c3bc12e200cd09c c248_1⟩
def c249_5 :=yG 88 0x42b9ceca96ce8c5b20c1ea972af6dc7978b73aadacabfa5b2c30e64a7ed141c17ab26b9b523709720e49ebf47d61e72c55ab7e8e65076caef34504cb9d3feb9c54b7d97be08f67afb77eeefee620e0dd5d9accf859d8bcc9e8214abb6f7ac194f5178ac7861dad4a28b12c (.i 6)
def c249_8 :=yB 64 0x6f4a84106bfe56e4f26816c1d5cf1d992b9142b1d496c288b0d2e2a181e4d09d36dc1409a9bf7528800d490c4d5b157998ab705353c818477dc2bb755980b97a4c41ccf7ef95baeb552e1a3107e53f2f7be15b98f7a0b1c509048d8407d43976105e3cd2d0954635afb12c c249_5
def c249_10 :=yF 107 0x517f603fe16913dcc7ba981f05a42e5718238a4b8a1f01c426216aabad20086f947d4707204711bec6fdc386235d48a7c36ec701b42044ff2f8ee13b6e6158c5ca6d56913b1e899d0b52720663ae9b081a985bab67f571e1582c6b2ef0f724da59be5859ece05bc4c8aa2a90a1e904e5ee5ca537111cfb52d8e1885089d96552a6cf9774a4a32f09013cf1f85404e10 (.field 0 none (.t 93)) c249_8
def c249_11 :=yB 22 0xa68f337b02db6dd1f26fbf1aedcff3cbbed4b0bae3711fe9b5d8eee910 c249_10
def c249:AFn:=⟨3,107,[.tmp 6,.tmp 7],yB 8 0x7e808704c00dd5e1e68c11bc c249_11⟩
def c250_6 :=yA 61 0x5736b6b4f2a8ee725a52f274da9453163820d5322c1c08e34d115ac
def c250_7 :=(uF (fun a b c d e f g=>jA 100 0x12884ce488129baaf5cca68c10c479f66cabdcc305bcebb1045d90145b72bcf4c2855e2816a4e1be840c9702d11d123c9128ecbe3c84678d4d6729ba44ee7df1bdc9b9627a8b24871bbb2a5e2271a4bdd0aae048d4a4248bbf363a32cfec489571503071e8181901ff282dc592b2835312ae6411e0c28a5aab233a10ffd8299916cb2c70b8d01db6c3aa27997ca1952a76357c51cab3a085e14f3ca624ba82eec102f9bf8ba98d53974262c7 5 1 1 [a,b,c,d,e] [f] [g]) _) (.i 11) (.i 12) (.i 13) (.i 14) (.int .u64 18446744073709551615) (.minI [(.t 94),(.t 96)]) c250_6
def c250_11 :=yA 30 0x513a9c32b4908c5a43884456e26b51c4987fb1acb1d12b5a58fc8e023377a0029bd7ee930990a0dc430101eca9030cbc2ad432fe2bad54df6d02d96241706215ec8af690
def c250_12 :=(uF (fun a b c d=>jA 52 0x163528a97b6f582a1a886cb52103651bbbc89afb1dd885e2818a850986915163ae98d890f43b443cf2ba90a337140ed6996b386764e58b5213500aec1b49223a72ede3b091f640fc0713a35c72c05a4bee4df2124ce406499e9332d299e5fd74f4412e2d682d933f7feb57a052ebc870bdb8dce10 2 0 2 [a,b] [] [c,d]) _) (.i 7) (.i 9) c250_11 c250_7
def c250:AFn:=⟨2,100,[.tmp 4],yB 5 0x5bbfb66e8e801cd12c c250_12⟩
def c253_4 :=(uF (fun a b c d=>jA 143 0xfe791c72295809e6d973750fbd7d39bc68dadafc6d985b3e55cfdb09fe342b7ddb743b4b4513a4beb0fb3207acb8154df448543d1dbfa13d959e2a692c4cfad3277d77e4fd864e3425006a17df008315cb25d8bfbb0a68b9770b94db53af1ed587c 2 2 0 [a,b] [c,d] []) _) (.int .u64 4) (.i (-1)) .fail (.sliceS (.t 133) (some (.t 134)) none)
def c253_6 :=(uF (fun a b c d=>jA 118 0x1809d5d5ede0a5f82afeafe9e66e87c6a53e8b1e93a3f9431981e3040486cbbd567b8f2998166ac6abbacf4807f7208afb60bd08e4c744d5b06223e5e02cc9fcc66afdce82c97d0e72ed2f12fddd5fa2769804f46fc1a953b24944f4ba8ffb3597f1171bc 1 2 1 [a] [b,c] [d]) _) (.i (-1)) .fail (.sliceS (.t 108) (some (.t 109)) none) c253_4
def c253_10 :=(uF (fun a b c d e f=>jA 95 0xdbe7fe5ed6023bbc3024229365023a080bb8b2c9a8c85002ed4a92ea6d58f9c300e28e28224114d04ecb4c43002b242d71774ca7a9fbf7ddef87ee05eac0cce14ef7048e1a3f74d31e91b59afe682bd5ddeadd710238489026fdc04c74408c485900ab7b64073e5b4e410fac4c42253139f037e8f11a6ae20cfb9ad503cb12f25fd3d22e0e250 1 4 1 [a] [b,c,d,e] [f]) _) (.i (-1)) (.ixStr (.t 60) (.t 61)) (.sliceS (.t 65) (some (.t 67)) (some (.t 68))) (.ixStr (.t 78) (.t 80)) (.sliceS (.t 85) (some (.t 86)) (some (.t 89))) c253_6
def c253_16 :=(uF (fun a b c d e=>jA 48 0xcc8aa671f3ce206c6f2231984c14f2be296abc57ed6c4f47dcb99c19461053c6ef693bd63c9248c93c2af630888382a8dd7199929d6235c35c588444ee9be8b76667f6fb32f5421284ca508d032450cbdafa07107cd51063e4e05515d57778014695ebd4672096b73a53ea80c6d79be8c216ed9798c52cc475f5485c2cb48c 1 4 0 [a] [b,c,d,e] []) _) (.i (-1)) (.ixStr (.t 28) (.c (.i 0))) (.lenS (.t 33)) .fail (.lenS (.t 41))
def c253_17 :=(uF (fun a b c d e=>jA 60 0x13c8339c3e0ef64819d607223c4919d20cbd18fa694a8522a0a1d45329737fff6b5acf03eea4f24687fe07476897c38dc3ee332fc117a75b05ac514086f3a60622f10efc35e91bc 1 3 1 [a] [b,c,d] [e]) _) (.i (-1)) (.ixStr (.t 48) (.c (.i 0))) (.ixStr (.t 50) (.c (.i 1))) (.lenS (.t 52)) c253_10
def c253:AFn:=⟨2,143,[.tmp 4],yN 16 0x2a9ec81d7ed33e3c0484c9b3aeb2631109c (.lenS (.t 14)) c253_16 c253_17⟩
def c254_2 :=yA 18 0xffead62c3a4cbbd748d95a56b7ce99f7c40d4123aac46c70e42a1170012dd2da8428053936121bb6df3a7c05512ba2d38ebef3a4f6b22a98425d605cb641ffc77efcf2f95f75499677a4ae7f09c
def c254:AFn:=⟨1,18,[.tmp 2],yB 3 532183339164 c254_2⟩
def c255_3 :=yG 20 0x41336f0f23d67f5d6f2aa74203069ae22415a74de138f88bb28c563e0de10cf4eac25d2359f50f05eb7f5d81798d4568b5fa778a56c229f387820a496f90aede456e69db8b3412614c6a888f06a6fddaec6106d6601456467dcd2a2cc3e7b6d41017dba44a8ee62771bc (.i (-1))
def c255:AFn:=⟨2,20,[.tmp 4],yB 5 4789558483587228 c255_3⟩
def c256_3 :=yG 20 0x41336f0f23d67f5d6f2aa74203069ae22415a74de138f88bb28c563e0de10cf4eac25d2359f50f05eb7f5d81798d4568b5fa778a56c229f387820a496f90aede456e69db8b3412614c6a888f06a6fddaec6106d6601456467df82d53d27423a41017dba44b14620771bc (.i (-1))
def c256:AFn:=⟨2,20,[.tmp 4],yB 5 4789558483587228 c256_3⟩
def c257_0 :=yI 8 0x1290ec49185ab4ce522a1666af3a2065a1531f24c (.nilfn) (.mkClo 281 [(.t 3),(.t 4),(.t 5)])
def c257:AFn:=⟨3,8,[.tmp 6],(c257_0)⟩
def c258_2 :=yI 20 0x13d7ac43fd6c49551452bb209eea71d43172c093764b0c3f84167ee66132614cb49108cfeca5c4a2e909d78ab3f2b267211b26a3458c155f6beb31d05e092810df2a37a35cef42de4ced1b8962c179031bc (.int .u64 18446744073709551615) (.callv (.t 14) [(.t 16)])
def c258:AFn:=⟨2,20,[],yC 2 81082 (.label 0) c258_2⟩
def c259:AFn:=⟨2,6,[.tmp 4],yI 6 0xe5fb396e23889bd7ad9a4fec438fe311bc (.nilfn) (.mkClo 283 [(.t 2),(.t 3)])⟩
def c260_0 :=yE 8 0x97181ddc3792c1c6d402df21ad7dabcd2f480c68f073dd106732334e10 (.eq .slice false (.t 3) (.c (.nils)))
def c260:AFn:=⟨1,8,[.tmp 2],yB 3 532661096604 c260_0⟩
def c261_3 :=(uF (fun a b c d e f g h=>jA 33 0x3f3e50432389f7926e3be33389b8d9c4079f123655bf22e2488f8a912e9fb740c6b4add97320375d1d988879e2d08f5b59649fa0347ed9eba29153ab6f03975f587c630213b84e22d3f933b5fb614ef0398055e1df36c 0 8 0 [] [a,b,c,d,e,f,g,h] []) _) (.recap true (.t 0)) (.slice 3 (.t 8) (some (.t 9)) (some (.t 10)) (some (.t 12))) (.recap false (.t 17)) (.slice 3 (.t 20) none (some (.t 21)) none) (.slice 3 (.t 23) (some (.t 24)) none none) (.slice 3 (.t 27) (some (.t 29)) (some (.t 30)) none) (.clear [.i 0,.i 0,.i 0] (.t 31)) (.recap false (.t 32))
def c261:AFn:=⟨3,33,[.tmp 6],yF 7 0x3da4c7d7b709c (.recap false (.c (.nils))) c261_3⟩
def c262_3 :=yI 58 0xb696a140508efe00fa3ac9c5c1bb839604b534eae33126edacdde19bd1c3ccb9755b7e94c47a1531fc61f0eaf7b2b93dee7b436262c8d08322de4116912ab0610d7cff69897fc6c4b456407947a589078a203ecdc14db7b125ea59e367f2b7827942523dbb905e2b11b3e81d44055a3b93ab01ef713c2830ce57a5d0340630227ee8fe1443ff4a167e03e56971d8f6b63d250efd0 (.i 181) (.mdel (.leaf (.int .i64)) (.t 30) (.t 31))
def c262_5 :=yF 20 0x69997f2cf87e511c252621f2e69e1d4a0f714c14bb3308c230e8810f70fca9e1b992e7a7f83d74d9bbe0b4cfe2fbb310195761784c4e10 (.lookup (.leaf (.int .i64)) (.agg [.i 0,.i 0]) true (.t 15) (.t 16)) c262_3
def c262:AFn:=⟨2,58,[.tmp 4,.tmp 5,.tmp 6],yB 7 0x1c2e621d6bc7269ffc11bc c262_5⟩
def c263_2 :=yE 59 0x30cfeaf7b2767a75c3b3ce1ca8bef45c23d7031fbcec3ddf732a8c6c296bbeab664bb8b0ef71956a8d9e5f08c76a48d689a66404b72c02f9072a37c75d0bbb4590dd8f4e68e153d1a5fb90462cd0f43a840446b25dfd4972d8b60beeaeeee8add74df12a1fee8e869182b09b2936c (.mdel (.leaf (.int .i64)) (.t 35) (.t 36))
def c263_5 :=yJ 32 0x26dd01bb81d0951b2c134a2f96be718c6e743d7a1f6540c88f393a00c23932a41619b4d661fa1f1733e7ede8e7f5c9818ed36a0f4b858d1a7be9383c44e6a3460a9b8edc393d8dc0cad20a43591db54cd0e9f344c8288291ab69daf649abcccca6e795c51c9ce5041226e288bcf24c5ce10 (.i 181) (.lookup (.leaf (.int .i64)) (.agg [.i 0,.i 0]) true (.t 16) (.t 17)) c263_2
def c263:AFn:=⟨2,59,[.tmp 4,.tmp 5,.tmp 6,.tmp 7],yB 8 0x2307a7d0ffb946b59fee51124c c263_5⟩
def c264_1 :=yE 21 0x6587ac8aa9c7eb21d27cd49a973cff4b593bb615a638da483aad7461b92f20827e4318f546ad4b15ffef1577826e8183d3bb659ae417cf975772cd79676797ce112c (.lookup (.leaf (.int .i64)) (.int .u64 0) true (.t 14) (.t 15))
def c264:AFn:=⟨2,21,[.tmp 4,.tmp 5],(c264_1)⟩
def c265_6 :=yA 53 0x9e4a852d130a86c4b59541b21feae02732d5d3ced44260b86a4367ad72bd9343ee16814c87f8261db25074cf30b9646769ff9260c61fb28ed9d1c63d8bbc29b1f0c298ec850aa9fc532a113ad7132ad4e910
def c265_7 :=yF 40 0x32ccda81daa74ffe7626d49fd69aadffbc0e2d509b3bbf7e40d68d2f6f423595dd18a97df3e941094fa29a9feb3abef2e8a03979e3d323dbaaa94b0e801ba46a12f203c4585be7abd8021f31b6912369a9aa433e6208fe5b80e37720771767dd426c5b3be29eb968bfc17aca7e0e5ebae0f871fa70140fd7fd0a5f503069cc64f603b1af0779299e46a9edbf6f2eeb4e869ddedc743e28953bf7a163c (.eq .ptr false (.t 30) (.c (.ptr none))) c265_6
def c265:AFn:=⟨3,53,[.tmp 6,.tmp 7,.tmp 8],yB 9 0x24420b805a62004712851bc c265_7⟩
def c266_1 :=yG 28 0x202e75c8e6dacb60968b12ec43d3a40b49d8d0263fc1fb642be203fff3f6151631bc31fb7fc60421408e6e5da4e7520b4a2813b4d2512e5174f80f5bf854313d9c71e5dd93b32cc07f75c (.i 4096)
def c266:AFn:=⟨2,28,[.tmp 4,.tmp 5],yB 7 0x5ca9167afbf28bf8b7aa777f42236112c c266_1⟩
def c267_3 :=yG 63 0x6cc111b1d84ec6ee0062428b49ac985e77069dfd9834d4aee39704a8697c68c72041ce94cd70990c9caebc2a2a5af3f64e1cc07a86256639a51552a44acc0a11f485e2840e486eb530c8dbb06735e5fe4555279772405c8f65546b59537135ec4c66fd7c4887ee466def971ff131a60d19d80e7d31cd2dc (.i 114)
def c267_7 :=yB 71 0x357fcc257ef78aa17058526b905e950df49f79b8fffd67230b47a3a6d44231f470ca8e992a8a906d188c22782563b9f85679d8137085904bd98491f1a6a8f0a6c3617eafd61a4e655006cc0dc52daba59b5ff31cb837d09afd41daad25730faae21a00c61e21e5b6792dfc47f7a557160c1bff955f9832da5a647e7d07ce7218476b85d35476d4aba842de25395869fb52316ca4363c c267_3
def c267:AFn:=⟨3,71,[.tmp 6,.tmp 7],yB 8 0x1da1d5b8829afa5512c c267_7⟩
def c268_0 :=yE 10 0x37baa632f0642b2f6eaaf592026a00fe48d6e17952c85cf09d64e10 (.toBytes (.t 8))
def c268:AFn:=⟨2,10,[.tmp 4],yB 5 4789559279849628 c268_0⟩
def c269_2 :=yE 44 0xa99ef0290181b106ccc2fcbf9e96887db55f3518bcf882811ebf4d6fc1f358f954b6bbdd3f7e33161858ecbe665a8de07344cc1284efdfde6d4d4d8f525aecee8a7ca3d7ab0f126efc6b7ce32560c9fef3fd54ca554f7ca167a23bb20d7fde0343f6887f423e66209b9dcb4eccbc9b9b83dd7bae964c3e02c0220bd7823ad1e9803e7a40146925a0dbb63c (.eq .ptr false (.t 27) (.c (.ptr none)))
def c269:AFn:=⟨2,44,[.tmp 4],yB 5 4789558483587228 c269_2⟩
def c270_3 :=yM 79 0x27baf4ac463423ae303117c60d69cd515ee525be3efa8fcd50bed3980ca76c2832572f62739431fcab12bb4c283bfc1cda89acce942b9455cda41d99a83f02d1e45d108b2651c28fe4e345d34a4c3ddb8ffb7c1df426747c279c39685ab53e69eb7974f3a651e694d060d27a1799fb7e2e54d2133f82d812f976856c12b22ca1dc7b7eb44f75083be4b6f0713551c (.slice 1 (.t 48) (some (.c (.i 1))) none none) (.build [.bool false,.i 0,.i 0] [(0,1,(.c (.bool true))),(1,1,(.t 72)),(2,1,(.c (.i 0)))])
def c270_8 :=yB 44 0x2da9f9078250cfd6b336f6f27fac65f30fa88dc41d232517cf087f25c1653ea8891da7dd1d5d61e6b8936489474ec6615d56dfae23fc145098621ff4e10 c270_3
def c270_9 :=yB 35 0xde78c8e6af2b440ce3da3bf696eb73e271b61923548b6030081f8bba5dfb6de74fdecb7b740fd271a989a7c1e5f6d842c5c6de479db9a9a537152e233eeed7b891874f45850067ee77b7142b46176d7aa1b4a3f1f6dd976f020ddfe90ff8e257649c4b1b50124c547cc7c05d5007ab3961cbda63eb39310ddf537a53a89cd9836284be102b7d5cb6ee58cc8c7ca243b59843db950bf96a04a8d8eb56cc c270_8
def c270:AFn:=⟨2,79,[.cell1 4,.cell1 5,.cell1 6],yB 7 0x1ed8e4150c15b12d08a6cce53ba8d0e5724c c270_9⟩
def c271_4 :=yM 39 0x12f61f7f9750b7b29a8e733ae2e7bb2a8f8ba40b223c7266525dd18ad24c302d6ba2b47104e72050bf410396a2f4dbe37826ff81b2b93a87b572d5614a358a5d4fe66c949ee2121b29b11817b5ff31a0ecd8e2011b2aee58c7bc097c3de0d1505672509a16695e6d7b29dbaf5073b5250bd3fc (.lookup (.leaf (.int .i64)) (.agg [.i 0,.i 0,.i 0,.i 0]) false (.t 27) (.t 28)) (.invoke [(51,17),(138,309),(155,108),(189,316),(192,331),(257,342)] (.t 35) [(.t 36)])
def c271:AFn:=⟨2,39,[.tmp 4],yB 10 0x1f596b0bb219894b4dee94c12d12f32e30daf56da109c c271_4⟩
def c272_1 :=yA 20 0x31a41a84c6b8e372131b49990b95831f2658fbe4f701a69ebafdbb54961b0858e1d3f9ab342dbc622cbfe621784c9ea6c360f08907a0901baca9afd1951c
def c272:AFn:=⟨2,20,[.tmp 4],yB 5 4789558483587228 c272_1⟩
def c273_3 :=yG 43 0x147ee7c369fc4053556098791d73740e761cf9bcc030b9050162d3e09c44dde35a876ccd72907f962b45b026a2b6a450b9775defd76b52e6a061acac7a8ad843f1af7940b0863aacaa6d3be4638b81752b877929b84bb1bec3f5b218de2f29230bf7c790689ba22d6911a213c8dc1fbfbb5eb34d6985e95da871bdf7cb29a151c (.i 15)
def c273:AFn:=⟨4,43,[.tmp 8],yB 9 0x1ea6b1cf4c12109c c273_3⟩
def c274_3 :=yA 31 0x1987d905503378481e91cae80750642f3bfdff2efc9befddd6146092c012b54b042b4d3357a41a55024a2837d6cef87b3ccbbbd2f78f0eb26b5126dcc6011bc
def c274_4 :=yF 46 0xb96a91157b36435c5dc7a64585aacd738a8467aaa8dac4fdba0b9760dec3c42730e16e58d2bfe6144b557606cb20cb70aac0bffc6f5865e39f9531cd4e5c981503496509b444a0e5ad7e8dfbe7d3477b2cd7cd73a79193fd7da5d51c (.mput (.leaf (.int .i64)) (.t 36) (.t 37) (.t 38)) c274_3
def c274:AFn:=⟨3,46,[.tmp 6],yB 7 0x17d6b927192d09c c274_4⟩
def c275:AFn:=⟨2,8,[.tmp 4],yA 8 0x4ca912ac4b77ce452bb58cc8b54335932d109c⟩
def c279:AFn:=⟨1,6,[.tmp 2],yA 6 0xd306e95d5ab77cbb4e732c3ede43d09c⟩
def c280:AFn:=⟨1,6,[.tmp 2],yA 6 0xd306e95d5ab77cbb4e732c3ede43d09c⟩
def c281_3 :=(uF (fun a b c d e=>jA 35 0x5896f4a9d7568279f98232dcb385d0dc8bc5d9db61ff460934dd88ce7c57746664965e34045babfe89d527e7e59e887a506c4866365538a6f7d5e8c3eec88e1b2ee45f58691bcc78578989f8b7e8df8ecdb7f8a74b0fde0744773a5e8f713e07e4b341613ed47f0a095e2a02fd75f852dc 1 4 0 [a] [b,c,d,e] []) _) (.i 6) (.lookup (.leaf (.int .i64)) (.agg [.i 0,.i 0]) false (.t 19) (.t 20)) (.field 1 none (.t 21)) (.build [.i 0,.i 0] [(0,1,(.t 29)),(1,1,(.t 30))]) (.callv (.t 28) [(.t 31)])
def c281:AFn:=⟨4,35,[],yC 2 81082 (.label 0) c281_3⟩
def c282_1 :=yA 19 0x4e3f7a3178a41d44c648f066f7dfe723a885c69451ab3a2e364aa0259effc0084aa1b777156b278a81656144edbd31afd666fd0
def c282:AFn:=⟨2,19,[.tmp 4],yB 5 4789559279849628 c282_1⟩
def c283_2 :=yE 27 0xd1384a16eaa20d639cce2a9528700bd37e365e3bda87c0d04587d469b27bc04545396980b1d3eb84aa031b2f2b2a6d0c9d6070f86b0a18c58d792feda283a84454d84b6e1a711cdfe04d77498d99e1172e2c0348c (.callv (.t 23) [(.t 24)])
def c283:AFn:=⟨3,27,[],yC 3 0x20c35411b2f13c3a (.label 0) c283_2⟩
def c284_0 :=yE 9 0x6671e38f4ff10dcbeaf53a9bae230a2f8d8a7fddb6d4512c (.mkClo 289 [(.t 3)])
def c284:AFn:=⟨2,9,[.tmp 4],(c284_0)⟩
def c285_3 :=yE 56 0x65402e595716182854ee68d0063ff8394173fdf109dd2e973d62e4ffb96ad2a6345c232ed2d5d496b1f465674118ef96b30a714473345187f38e7a94d9b4f27a5b5d43130cc097d8c525251707717774a05ea9ac74eae325211a03d919df7a5713ef22470f4a0f8e6a2ff24f6a602e1215f88f8e2480ce0e373171c5d9d3208aeea3a7e6a71a1a4f44f690 (.mput (.leaf (.int .i64)) (.t 53) (.t 54) (.t 55))
def c285_5 :=yB 20 0x950df3de8ddc82ee2d0095f1dfbf4ca8959ad1d844cbf0d22b2be819a4905aacc2a8dba89418e6c64eeab9be3accd45718ae1555bc4d1c13e82689f509c c285_3
def c285:AFn:=⟨3,56,[.tmp 6],(c285_5)⟩
def c288_4 :=(uF (fun a b c d e=>jA 42 0x11ef470717953ca343c313ecded71bd7c40316a54f85631c418edaea15c19f59ef02c577f912d19487c642492278430fe4f5954d18cc349298ecfaa9f5e396f270c7814189110ce2491c78031346382442edb6f7a70a6dd6f331a028582525a0417438638aa91e71910aac071f61cfce0facf84ef6a49df2fda3cf32a3d334c7952ead08f5d447b3f4e10 1 4 0 [a] [b,c,d,e] []) _) (.i (-1)) (.callv (.t 26) [(.t 27)]) (.slice 1 (.t 36) (some (.t 37)) none none) (.clear [.i 0] (.t 38)) (.slice 1 (.t 39) none (some (.t 40)) none)
def c288:AFn:=⟨2,42,[.tmp 4],yB 11 0x44642376ec6fcd1ba0072c3bd6246a12b8909c c288_4⟩
def c289:AFn:=⟨2,7,[.tmp 3],yA 7 0x1355119e6f115b153fafabc09acf01fb709c⟩
def c307_1 :=yE 26 0xb2b0f8517a5066286671822b4f709092408d4d8e87ff18df3a8a3bc5af7aa20a2c88bba218067fc35270a7e57d93919212758e2b67b8c857c551578ce10 (.invoke [(51,14),(138,307),(189,315),(192,330)] (.t 17) [(.t 18),(.t 19),(.t 20)])
def c307:AFn:=⟨4,26,[.tmp 8,.tmp 9,.tmp 10,.tmp 11],yB 12 0x34955ac9c6d8576d290f1cf5924c c307_1⟩
def c309_0 :=yE 13 0x1ba06c2a7b08ea31f7237449 (.invoke [(51,17),(138,309),(155,108),(189,316),(192,331),(257,342)] (.t 10) [(.t 11)])
def c309:AFn:=⟨2,13,[],yB 7 0x35fbc08a7c1365d6a792111bc c309_0⟩
def c310_0 :=yE 13 0xdfaada26f7b1e720a9ba5795a973fc (.invoke [(47,56),(51,13),(138,310),(189,317),(192,332)] (.t 10) [(.t 11)])
def c310:AFn:=⟨2,13,[.tmp 4],yB 7 0xc0b0b6a88d9633f635a2179396a51d3f660e0cc909c c310_0⟩
def c311_0 :=yE 16 0x110b8f9836653e9620503c8b41d06fbb48c (.invoke [(51,12),(138,311),(189,318),(192,333)] (.t 12) [(.t 13),(.t 14)])
def c311:AFn:=⟨3,16,[.tmp 6],yB 9 0x20ea0769fe9149341a2bfcc9ccadd1b08b55448cfd09c c311_0⟩
def c313_0 :=yE 12 0x1798532eb388c45ead94e076b55c23359fa5d39616f5ac (.eq .ptr false (.t 3) (.c (.ptr none)))
def c313:AFn:=⟨1,12,[.tmp 2],yB 3 532422217884 c313_0⟩
def c315_4 :=yE 103 0xe368f479948f9ce414a5ed1f21b38ee341daeaa17a42ebab5aceb2db85bad62d68249969be4e585c1e2c5c5e7d967d1098d3d92f70a6b2eca558da950c10dc6104773dbef881d24c413657628f1548d92ccac90 (.lookup (.leaf (.int .i64)) (.i 0) false (.t 85) (.t 90))
def c315_5 :=(uF (fun a b c=>jA 79 0xa9eadbe8a4457e4674066953acd9144683b4aaf04c4bcc2e15330ac5db2f318e2a4f57551ada5f019125b6c0afd5e8d1e6f3b149c9546ee33641cc8e810ad5a6268d576206c53868ae18f49aacbe6b6185c84b239ddf8136bf8a16b758a2b22b5fd512fec47ab3fef0366a1bb28c405964160b671e22183fc0c41bce10 0 2 1 [] [a,b] [c]) _) (.lookup (.leaf (.int .i64)) (.i 0) false (.t 61) (.t 62)) (.build [.i 0,.i 0] [(0,1,(.t 74)),(1,1,(.t 75))]) c315_4
def c315_8 :=(uF (fun a b c d e f=>jA 54 0x2d40463a4d56c88922382fcb9b3b475971571e582d9f30a29fe1cbd4e2af04895aea5cee23cf06b4bbcc998919be6528a84be4f59c5cb2f7599578e20f5517839fe0dce7dc2e1730b7263766e082699c42bdd8d74f793c455f605957b2c3ada3e606719f22cde335004dcb2b3d5ac 1 4 1 [a] [b,c,d,e] [f]) _) (.map none) (.mkClo 322 [(.t 12),(.t 4)]) (.mkBm "roundhouse/dpoll.told" (.t 43)) (.nilckB "roundhouse/dpoll.told" [(441,440),(443,457)] (.t 48)) (.invoke [(441,440),(443,457)] (.t 50) [(.t 47)]) c315_5
def c315_10 :=yJ 26 0x18d3e5e83623933af9a5a5261916df26b23591f08ad4ae113f25f0395f5f39bc3eebdcfa3afaa92db76368815645e991cc2b90e467e93c066d2c1929e44a3d1d7cca6a52e7161b8c1bb5a8ce10 .nili (.eq .ptr false (.t 18) (.c (.ptr none))) c315_8
def c315:AFn:=⟨4,103,[.cell1 8,.tmp 9,.tmp 10,.tmp 11],yB 12 0x3793736de6891869f7ff29972d39cc74592dc c315_10⟩
def c316_1 :=yA 16 0x1ea7437268d8c88312cd17947a8d499588ac91f89de3e09ece86db6507e44ba511bab0774c972913fc
def c316:AFn:=⟨2,16,[],(c316_1)⟩
def c317_3 :=yG 28 0xabe67d44540efe1057f78b3000e2686ae974146978ca88677356c725fdfd944ebf20881af03ac6153e8117105f23ce6d6cf15140ea1d19d88f16a6645faa5c1bab337dac7c4bd185c2a09821f0d8d160d396b7dabd06367b87a3922d02821ee065ed3658397ec5b875ac3caa9e865dfce10 (.i (-1))
def c317:AFn:=⟨2,28,[.tmp 4],yB 5 4789558483587228 c317_3⟩
def c318_5 :=yG 54 0x1fd6ad35dffb14d2af17ce6606b76f96184c00dfd4564e4f7635d4c7d067cbaad9ec9282d62d27c74aca1ed381b1863633657d189ce538401be37339cb0e70e017e3f3d9d9f2687f8129c7e0e0b502dd895b90 (.i 191)
def c318_6 :=yH 39 0x469d7df9e28dd153e191788d71a0f6da54b91bb5437b89f0946d667259b9323fe18fcaaa0f9fde1d4de1ff5521580129bbed31a86ece97710b63bfe5ecb575daffa5b7537ac5896a51d9aeec1a93262503c46a0d84078e39ed4b3e0a3b3c8a84441b24f92b792e5b8c73303ca7fa66ee3c72271d57eb6dcf11610e2cb47edd252b017e562d09c (.i 38) c318_5
def c318:AFn:=⟨3,54,[.tmp 6],(c318_6)⟩
def c320_0 :=yM 12 0x28acf3629c132e18fa91427e983a6c4f35b1616f5ac (.eq .ptr false (.t 3) (.c (.ptr none))) (.eq .ptr false (.t 9) (.c (.ptr none)))
def c320:AFn:=⟨1,12,[.tmp 2],yB 3 532422217884 c320_0⟩
def c321_4 :=yM 49 0xe69dc97a02958ec84030b4d29795d049ea7cb90246bfb325917c281ff7f1f83847ae250 (.mkIface 441 (.t 45)) (.mkIface 443 (.t 47))
def c321_5 :=yF 40 0x1c3431aecf45f612c52c81510e2010329acd2c772b318ed737393af00c4bd08fca222096c9bac1af9dd327231287adf63a40594f5d9266f1a5c4794bd83bc8588c0230a8134f8c34cf4f699f84e7168165e037f76253e4ae655eb0dc754190d85a1a3c53e6a13390fa0a2359516ea0dcc3ee87d026f03872a1c3dad1d53ab48349962dae079cfe88e7e5c7ed2fcef77ef448c594e10 (.build [.i 0,.i 0] [(0,1,(.t 34)),(1,1,(.t 36))]) c321_4
def c321:AFn:=⟨1,49,[.tmp 2],yH 5 0x34215b0ce35eecf418a5d345495226de509c (.nili) c321_5⟩
def c322_0 :=(uF (fun a b c=>jA 12 0x349735dec60c2aba6b360ca57d9bdd6f75e1f5ac 0 3 0 [] [a,b,c] []) _) (.mkBm "roundhouse/dpoll.holds" (.t 3)) (.nilckB "roundhouse/dpoll.holds" [(441,439),(443,456)] (.t 8)) (.invoke [(441,439),(443,456)] (.t 10) [(.t 7)])
def c322:AFn:=⟨2,12,[.tmp 2],yB 3 0xa35a5a573509c c322_0⟩
def c323:AFn:=⟨1,4,[.tmp 2],yI 4 0x3e74bc8c76a4aa590df662612c (.nilfn) (.mkClo 328 [(.t 1)])⟩
def c324_0 :=yA 9 0x10c959813265cfeb861d253d68f7535cd2f3fc
def c324:AFn:=⟨1,9,[.tmp 2],yB 3 532422217884 c324_0⟩
def c325_1 :=yI 24 0x19ef9bff8c598ffa5b06212b11ff470488df2ec81980a41d5f57d776c96c9161017701b408ec1a96a384b9053a688e84a6c4204b1468e6956d0e2b8a2d551c (.i 190) (.field 0 none (.t 11))
def c325:AFn:=⟨2,24,[.tmp 4],yB 5 0x3b39a75040d89752b1f877c0b909c c325_1⟩
def c326_1 :=yE 20 0x18d3afee708547a96d42b97236fed60fe7810b13ab48592a6083e0ed6131d9df52518f710560bc738a18dc30bc1ccc2488c40ca6ff1cef21f74ee554cd3607b40b0c6d409203fd4d0 (.build [.int .u32 0,.int .u32 0] [])
def c326:AFn:=⟨2,20,[.cellN 4 2,.tmp 5],yB 6 0x1871c7e9eb742bbcaa72e6211bc c326_1⟩
def c327_1 :=yA 15 0x119b6d0479cb868b96d4ea1a17de9d3c5eb279c5d547ef51d8fd9dccb74821c2d7d5bd2d73a10064597269a708dd3aea0b2a245cd4d0
def c327:AFn:=⟨1,15,[.tmp 2],yB 4 0x477fbd75d41cea2d09c c327_1⟩
def c328_3 :=yM 30 0x2966aae5d9d9a0988a1cf89b834ab2f03099d1e184e62f8afc7936ff774ce6c1cf8f2d779c5e8116a92e74d76808d2c452476c1c405c729c80cba81c0f15c6c8a4615b0680cfbdf99eef11f40ac047b1cdd5c4ba6b7b22416160da94bfcd39104d5d9f5d84e195422394aa26b2dc (.ixA 96 1 none (.t 8) (.t 9)) (.callv (.t 24) [(.t 25),(.t 26)])
def c328:AFn:=⟨2,30,[],yC 2 81082 (.label 0) c328_3⟩
def c329_0 :=yA 9 0x10c959813265adf355e2e74d9206735cd2f3fc
def c329:AFn:=⟨1,9,[.tmp 2],yB 3 532422217884 c329_0⟩
def c330_6 :=yG 72 0x1547727c0d0f8c0ec64d077583fdfb6a391d97a6dadda015ff16d186885787191b7144f189e569cafd34f0c65c5a5a6f5bde2d143bec21738bc9f8bc4318c3ede01379fc8a0849a6da6701f8897f7b5a54d0 (.i (-1))
def c330_7 :=(uF (fun a b c=>jA 95 0x8f77f3a3037d04e80430b6ef5e955d019036a708229cfc178f6d0ba723dab6ae02b13d93110e6a4835b7a27e22d774151f274acaee177cdc2396556fb3d19374e13f28699feae54ebc8f0639d7e3dd8e58e290a54d9d8a54e0a9dae8323725ed8a8ce684d7c9459d685c9992f75be19a7efde928e99c32d4f352bc4598f1e3f56adfb464cc97c54966982321dd5ee844204d7c3bb37ac18768a971a3187144ab267d101d8edb55603b0da5a2a395db90 0 2 1 [] [a,b] [c]) _) (.ixA 96 1 none (.t 72) (.t 73)) (.build [.i 0,.i 0] [(0,1,(.t 80)),(1,1,(.t 81))]) c330_6
def c330_10 :=(uF (fun a b c d=>jA 48 0x906f3698e0bf17ecaa72ce3cb07f3739561c8123aa4d66817dcb3a3b311347001620ae863f22f418f72feb63dcc3ce02dcd151a78688d5e184cd196fc784b94630a21fd8b43dee906d8aa136433116ad1d692491d474512a45945d04062d46b34ccc9fcd2d2be912eab785b9d43d58d967601802175047c07e4e10 0 3 1 [] [a,b,c] [d]) _) (.eq .ptr false (.t 21) (.c (.ptr none))) (.mkBm "roundhouse/dqueue.due" (.t 38)) (.alloc 96 (List.replicate 96 (.i 0:V))) c330_7
def c330_11 :=yB 21 0xaf30125c280e11a74746aea5e8fd83666b8ab8b5eebb0da3107ea5919ef12297fafcd13b4a54e10 c330_10
def c330:AFn:=⟨4,95,[.tmp 8,.tmp 9,.tmp 10,.tmp 11],yB 12 0x29ae96926ce6d24f79ff5f3fe83f74592dc c330_11⟩
def c331_2 :=yM 34 0x277a44a1b85ce61c4f1678ba4251b3826f437c0c8b833afec0852b53da4031f49589b3995895278010b2d8f5ee7f624420c85f22aee41fbf9ccddb1f8c9706ee4c7e5dd3d70b824496fd0 (.build [.i 0,.i 0,.i 0] [(0,1,(.t 24)),(1,1,(.t 25))]) (.invoke [(266,357),(272,402)] (.t 23) [(.t 26)])
def c331:AFn:=⟨2,34,[],yB 7 0x18021cf7fc22cd8439264e10 c331_2⟩
def c332_3 :=yG 29 0x2091be1ab5dd2d06ae5b977e5c79f27b17bfac9397933ddb8dede230d22c442c085a832c3c87dcd4d3b0c205d8defb3a48a3e4c6f73ab25102879d773ff06d726bdb5f345001bc76abfed4b089fc3fe9ee28410a4539ebd1279ee70bcec1c8ca9e81926e82acdfdd463c783517909c (.i (-1))
def c332:AFn:=⟨2,29,[.tmp 4],(c332_3)⟩
def c333_2 :=yA 50 0x4e972cfe0634abeb5c8d7d483bc4c44fb234b067f48c
def c333_3 :=yB 43 0x889e2e9af47520dab25090052869130cc638601eeb080a65440542b59d04c49eacdd98723470591bd9c9c514153c38ac5031152d620955beef5115e13d9588649185a9a1d8fbfd372f2fc38e0a9a9a653315a9384625da45964d55b34baa7dc328b4c9d8833ead0437a7b83df076ebc85750ba958e8400dcc728a369deffe503cb93dcd09c c333_2
def c333:AFn:=⟨3,50,[.tmp 6],(c333_3)⟩
def c335_6 :=yE 88 0x10151ac1259c670360b880b4b9d9456854b6cfaa5d802ff141b88d9e626ae15bbcb512164abcae9b1f005a5e29d7ebe76e239eb390b6984eabc03b2b03aba9b31b4a3f690 (.invoke [(266,355),(272,400)] (.t 79) [(.t 77),(.c (.bool true))])
def c335_8 :=yF 62 0x267aa415da1235856f4f3b12b47f2a33f2746be2f32d9fae42fbb8d8dd8192880fa7099c26c10fb0d2d7ed74ad63b14cdbd46d9380db9fd8f63c7a9b2fb2f801edb15e34f55fcea1b214668ee3355b869f57966f39367d634cf7e3d39834ec96f1123e4df7b6e207f9ba82b349f2cae9c84bc06fd0 (.invoke [(266,357),(272,402)] (.t 58) [(.t 59)]) c335_6
def c335_10 :=yF 33 0xad8f4ddcb2a688723ab12dad8dec7dc17c8ddddb264342fdbee70e55995edc4b90620e966b51c8789d72fd7984c3bafe20934067a990702dfdd0338e9c249326de27dd35ac (.invoke [(266,355),(272,400)] (.t 31) [(.t 29),(.c (.bool false))]) c335_8
def c335:AFn:=⟨1,88,[],(c335_10)⟩
def c336_0 :=yM 12 0x28acf3629c132e18fa91427e983a6c4f35b1616f5ac (.eq .ptr false (.t 3) (.c (.ptr none))) (.eq .ptr false (.t 9) (.c (.ptr none)))
def c336:AFn:=⟨1,12,[.tmp 2],yB 3 532422217884 c336_0⟩
def c337:AFn:=⟨2,6,[.tmp 4],yI 6 0xe5fb396e23889bd7ad9a4fec438fe311bc (.nilfn) (.mkClo 345 [(.t 2),(.t 3)])⟩
def c338_0 :=yE 10 0x80398c3685da0e0342e1fea3d1148e05c401df7f9e355d45480fe634e10 (.eq .ptr false (.t 3) (.c (.ptr none)))
def c338:AFn:=⟨1,10,[.tmp 2],yB 3 532661096604 c338_0⟩
def c339_1 :=yA 18 0x1363832792a7515497f686610ac4db1862decfd5d504a07f31cefa19f9aae7701a19d0b436a9235909a5dcd343f666fd0
def c339:AFn:=⟨2,18,[.tmp 4],yB 5 4789558483587228 c339_1⟩
def c340_1 :=yA 18 0x1363832792a7515497ec93cfe79d2f3b7e3c2e1ba7dd208cce9dd376f9aae7701a19d0b436a9235909a5dcd343f666fd0
def c340:AFn:=⟨2,18,[.tmp 4],yB 5 4789558483587228 c340_1⟩
def c341_0 :=yE 12 0x305e5ab916a9a4d44adbd9470a8715c52b348c (.field 0 none (.t 10))
def c341:AFn:=⟨2,12,[.tmp 4],yB 5 4789558881718428 c341_0⟩
def c342_1 :=yA 21 0x89b934d3263b7bef33b2b7fa15d29dd9a81eddbd1b8732893222752dc981aaa044e83013b5864caccb0d9622760f3905a64dc173cbcf7e10cad0a28913fc
def c342:AFn:=⟨2,21,[],(c342_1)⟩
def c343_2 :=yA 25 0x57a21680d84b30a76b1fed06ad0bba9ddeb62344decd09b04927a05294f423ce8107d8b4be0b899c4464ee2b9cac2b5dcc91df8f7299c7a230a368855689b0161ac93319191beb1114e3da8365c110ced28b2302b7d09c
def c343:AFn:=⟨3,25,[.tmp 6],(c343_2)⟩
def c344_1 :=yA 17 0x10c86813597503b4f40682e5eac7a009d14c5adaf3274e02c0f0dd74764970fecd1f796cf43d419f174845a55dabde4b3911bc
def c344:AFn:=⟨1,17,[.tmp 2],yB 3 532661096604 c344_1⟩
def c345_4 :=(uF (fun a b c d e=>jA 41 0x2e3e577ccbfa11a8d6dd20d9ecf5f12fbe9708fe1b9939ebc565543f3da13f805aa32b2ce4adb552cf6e9c237f8bb91ae443cc665d7124b5e135d624d0f44ffcdc23f6a66fe0a00a6fde81e982b8b91a873120451dfa83f92d4a7abc8132619d8579b14612a7d64bcf2c192fafa77c8ed68fd046ccdc8297afa332ee282680fad1c88a4736575a710d18d10a1b3f8f83e0313fe6357109cda099ede25a 1 3 1 [a] [b,c,d] [e]) _) (.i 256) (.invoke [(266,356),(272,401)] (.t 15) [(.t 16),(.t 17)]) (.callv (.t 25) [(.t 26)]) (.minI [(.t 39),(.c (.i 256))]) (.label 0)
def c345:AFn:=⟨3,41,[],(c345_4)⟩
def c346_0 :=yE 12 0x7a06da27d437bfc524259d60ac6694379d39616f5ac (.eq .ptr false (.t 3) (.c (.ptr none)))
def c346:AFn:=⟨1,12,[.tmp 2],yB 3 532422217884 c346_0⟩
def c347_0 :=yA 9 0x10c959813265cfeb861d253d68f7535cd2f3fc
def c347:AFn:=⟨1,9,[.tmp 2],yB 3 532422217884 c347_0⟩
def c348_1 :=yA 13 0x36e858a9c1035ee6994399fdf330a056d38e5fc4c8c7217b004a17f6000ae7eec6a1f42a3adf94d1d96a784ba1fc77fac1c73aaa48bc2af551e55b1709c
def c348:AFn:=⟨1,13,[.tmp 2],yB 3 532661096604 c348_1⟩
def c349:AFn:=⟨1,4,[.tmp 2],yI 4 0x3e74bc8c76a4aa590df662612c (.nilfn) (.mkClo 350 [(.t 1)])⟩
def c350_3 :=(uF (fun a b c=>jA 36 0x557f799cb1994a269dd12c90ebdf79b86afbb5d3e266c9b303a6ebcc09ca45b31b136c40ce6bd8fc855a534ca7012700de9d4ca538eeb3e0569bf79bbbd0877e10314d353434b89bebf4dc2e855c9e481ceddd2761dc842b6430b07bc3d76175a113b0f70e5cd9ba7e12ee8da872dc 0 3 0 [] [a,b,c] []) _) (.ixA 96 1 none (.t 10) (.t 11)) (.build [.i 0,.i 0,.i 0] [(0,1,(.t 24)),(1,1,(.t 30)),(2,1,(.t 31))]) (.callv (.t 23) [(.t 32)])
def c350:AFn:=⟨2,36,[],yC 7 0x120098e0018b3b729f01ffe7a8ca (.label 0) c350_3⟩
def c353_1:AC :=
 sQ (rG [qQ 0 2 (.alloc 1 [.bool false])] [0,2]) (sQ (sQ (rG [mV 0 3 0,aA 1 4 358 3] [0,2,4]) (cD 4 (rT [.mk4 0 none (.store 1 (.t 2) (.c (.bool false))) none] [2]))) (sQ (sQ (rG [mV 0 5 0,aA 1 6 359 5] [2,6]) (.block 0 (.rangeFunc (.t 6) [7] [2] (.skip) (.block 1 (rT [.mk4 0 none (.store 1 (.t 2) (.c (.bool true))) none] []))))) (rT [.mk4 0 none (.store 1 (.t 2) (.c (.bool false))) none] [2])))
def c353:AFn:=⟨1,8,[.cell1 2],(c353_1)⟩
def c354_0 :=yA 8 0xdbd1dd0e5acb6f41fa459ba4bc21a46bf9428d09c
def c354:AFn:=⟨1,8,[.tmp 2],(c354_0)⟩
def c355_2 :=yG 22 0x50e7057c78cbd4c4e9d636d7f6acb932ad3e33a792d2bd36c9de2a4d506adfbd5c3856d6f6490394c562784aaf502f61ac6a6e633aa3f8da063724c (.i (-1))
def c355:AFn:=⟨3,22,[],yB 7 0x18a48cc365efd09c c355_2⟩
def c356_5 :=yG 69 0xd3eb74473aaeb1c8e8e29c28b174da305099644ace017921067d536a457a7ba9f0a2d263f63b3775f23c4e7cae1593870ca46641434bc269aabe519ba828e46015f1ea6c4eab090a6defd0510034ba18d4eadc526f534b073abd2de45f75f8722be37947cabee2c0914aaa50adba0b46757e06bf152399d58215fcacc92ebf4cbde65f3fbc1b33efa190237a097ced80e0b23d408cfd539a71751b0b8d4240a517e3ab6b3736c78d1d3cb3a589a984fed5f785b90 (.i (-1))
def c356_9 :=yJ 71 0x983279dfc02bc70cc5ffc5c4e53a2c8caa67ffd817989b4d97e388a969ec5fa2ec745979fa200fd932be1b15f2a7bf5b96ef210a3317aa6caf0e2113a6caeae022f344faa80106f67de0de567309f1df67b06d258b0f2e27d7c0b89180f7ae1665278b8cc505f9f84b2fa01a7f517889c6d677af37ffe39ed609d2b9c9efb0bdcc56c13f40cdfe76cc (.i 24) (.build [.i 0,.i 0] [(0,1,(.t 31))]) c356_5
def c356:AFn:=⟨3,71,[.tmp 6],yB 7 0x17d6b92b404d09c c356_9⟩
def c357_1 :=yA 20 0x4cac24dc315aa831845729fca313d989b44596db79538a414495ef2636f7fa9e06cf59e7df18e18e9e070870f3fc
def c357:AFn:=⟨2,20,[],yB 4 0x35fccc57fc709c c357_1⟩
def c358_0 :=yM 12 0x28acf3629c132e18fa91427e983a6c4f35b1616f5ac (.eq .ptr false (.t 3) (.c (.ptr none))) (.eq .ptr false (.t 9) (.c (.ptr none)))
def c358:AFn:=⟨1,12,[.tmp 2],yB 3 532422217884 c358_0⟩
def c359:AFn:=⟨1,4,[.tmp 2],yI 4 0x3e74bc8c76a4aa590df662612c (.nilfn) (.mkClo 364 [(.t 1)])⟩
def c360_5 :=(uF (fun a b c d=>jA 104 0x4a330d540028bc79ab9c245bfc6cb72cd7accad4cc8d1af7bb8a45fd30174efc3b4b65c749bb54cf604badbae5f838e40fb65c211ad937e2a764cb95a9c4671b3ec7026290cee46ac2355d121a4a721f94f130597094b04d110eef20dc8a8a36c7dd61ce1ad561388d412e23981cc7101d6b1c31bc 1 3 0 [a] [b,c,d] []) _) (.i 151) (.build [.i 0,.i 0,.i 0,.int .u64 0,.int .u64 0] [(0,1,(.t 84)),(1,1,(.t 85)),(2,1,(.t 87)),(3,1,(.t 89)),(4,1,(.t 91))]) (.mput (.leaf (.int .i64)) (.t 82) (.t 83) (.t 92)) (.mdel (.leaf (.int .i64)) (.t 102) (.t 103))
def c360_8 :=yM 132 0x1dd3122e2c9a14fe4e0d902e50bc1d5c0d96aa996772d25a614648fdabababff86192b069cbbd8e7ad9018a724a74fba6193655dc391bab3408cb143c076c62468947868c13d81a597624d164b58a210b90bbc33f02c0ed7178057c3845f935dae572b3aed4b084f76e8ede77be650ace72999093179d15ac (.build [.i 0,.i 0,.i 0,.int .u64 0,.int .u64 0] [(0,1,(.t 122)),(1,1,(.t 123)),(2,1,(.t 126)),(3,1,(.t 128)),(4,1,(.t 130))]) (.mput (.leaf (.int .i64)) (.t 120) (.t 121) (.t 131))
def c360_10 :=(uF (fun a b c d=>jA 76 0xd39e26edce550f5ceba0517ed8a2ad4a6719febf7218c88148f1265869b209b7c2aac784966780939b4dfa44d41b5d23e4a54daf8b79c26aa8eaaa585e5be9b4edaef840cc010382d03337318e0fc478bc2f3c171a39167a2278d9d20d9d238325d50fe23c135b56a0e53f4703a401c777b513293f96f9f47bad08ccb7324cf5be2fc6328ab85ea99effa5e33a85d23d655b2551c 2 0 2 [a,b] [] [c,d]) _) (.i 150) (.i 152) c360_5 c360_8
def c360_13 :=yH 45 0x95868d633cc56f8773542f0162c211beec84443e582b44d5c5b527898f720193f4c8060142ffb824e22f83b90ef4c9041a29fb4ef300f526a96d358e94888d713733b2d1702186a1079d792e113094b9b18c395c6dcbc12987593bfbe5edbcfd0d51d2126767a9c16857a3834b28e9aa9ab3aff400b098cd348ed004bad01aae4888c7b14109c (.i 37) c360_10
def c360:AFn:=⟨4,132,[.tmp 8],(c360_13)⟩
def c361_2 :=yM 70 0x485d9383ef401051fa7cc55f98bba35122b41d85d49c1f545544dd274a53cdcb44b2fa80905bcaf9e53a29b6b4770c3fd44307e9f69803712881ce26dd3d88b70781805f1b1fe1103aeeccc83dfd2c55fe1017760913a64ce89333206d4a14e2430483f67b27b3f04aa868506134e678e1e4ada09753da59f9213d699769a9cdd9454d5f3441171ae57fa928 (.lookup (.leaf (.int .i64)) (.agg [.i 0,.i 0,.i 0,.int .u64 0,.int .u64 0]) false (.t 46) (.t 48)) (.mput (.leaf (.int .i64)) (.t 66) (.t 68) (.t 69))
def c361_8 :=yA 19 0x34a1c9acb4121259e163a7eb8441e08ab2435e18615501929627c94b5881513b50a02a09e02ba49b88e51bc
def c361_9 :=(uF (fun a b c=>jA 72 0x46c29b8a463bc538c7b774df0c342d6ac594eefaf380f7bd6c3d69b531e43b25592dd2909a19b8de77e3e8cfe5f510e584bceb0cb81a2067a1c20fec57a7f2b4a40aaec53d56223aa35a9c5b6e3bfc821df02f2ce277eed86c659ef616cff4887fecae14e1f78da0ae90a3c14459e801601ce517b7c734bfbb65fd0e3e86c9a7013ce45e754f089d89a43540cdcb80f36c 0 2 1 [] [a,b] [c]) _) (.minI [(.t 25),(.t 27)]) (.slice 2 (.t 24) none (some (.t 28)) none) c361_2
def c361:AFn:=⟨3,72,[.tmp 6,.tmp 7],yC 8 0x1a576e82a4b37c29fb95512c c361_8 c361_9⟩
def c362_0 :=yA 13 0x440584dd63d28ca39ab7b1fcdaed6546870aa7e5695351c
def c362:AFn:=⟨2,13,[.tmp 4],yB 5 4789558881718428 c362_0⟩
def c363_3 :=yE 24 0x2c3f78966df49d6d1ebdf8b78722284e91a8703c68b407012be1021a2d598ed8a19234db3d8f7f1bbc432e871039a741e2ec8790f281dc24f8581cfce0c0 (.ixA 3 2 (some 2) (.t 9) (.t 10))
def c363_4 :=(uF (fun a b c d e=>jA 35 0x1b89a11303a749f1289d87d026a9754a3788507f3038fcc9f31d13d62f7be011da6bba7358867b2a3c7cfff2b9908190d180aa940bcd41ab13edb523fd32c682b9ee2af1eec0f6cf8f537a201b0e5a109bf1dbcf1664edd6250 0 4 1 [] [a,b,c,d] [e]) _) (.build [.i 0,.i 0] [(0,1,(.c (.i 2))),(1,1,(.c (.i 1)))]) (.build [.i 0,.i 0] [(0,1,(.c (.i 4))),(1,1,(.c (.i 4)))]) (.build [.i 0,.i 0] [(0,1,(.c (.i 32))),(1,1,(.c (.i 32)))]) (.build [.i 0,.i 0,.i 0,.i 0,.i 0,.i 0] [(0,2,(.t 6)),(2,2,(.t 7)),(4,2,(.t 8))]) c363_3
def c363:AFn:=⟨1,35,[.tmp 2,.tmp 3],yB 4 0x3f3536f49966c38f761bc c363_4⟩
def c364_3 :=(uF (fun a b c=>jA 35 0x15d9eb94e9fad3b4d82a0360e8661006f0c0b8b756952a946c0308aed7b29e5dcf3cccb61ef8be24da8dda39b9aa61ba2ad7b71886dcac07a0b5e87871654926768595ed0f79f1c450e9ebc2fda03ecb6aaca4d6630eb4afb0180adb88646c77cb27d1919d84d4e86a9c810874421fb468b3b0bd92c6bb5128124c 0 3 0 [] [a,b,c] []) _) (.lookup (.leaf (.int .i64)) (.agg [.i 0,.i 0,.i 0,.int .u64 0,.int .u64 0]) false (.t 16) (.t 17)) (.build [.i 0,.i 0] [(0,1,(.t 29)),(1,1,(.t 30))]) (.callv (.t 28) [(.t 31)])
def c364:AFn:=⟨2,35,[],yC 2 81082 (.label 0) c364_3⟩
def c366_4 :=yA 56 0x48402960c9bf68a6438771dec0f53863562054891c11027f16ad13ad7aff6a7d946e3118ae1689f1b17e343d370a7393f75f5eb92da44159b16aee66d4db32b8c115c5a9444b4e9844c437d22f5a9731c8f8562de87cb60528eaa869bee2d2ab0d393791708afb5be9b58918a3dfee04795ea5fba3a7c85bcb925c92a8e92caf56a987474b6876657c2c62cf04e250
def c366_7 :=yB 28 0x2345020c48aa0533c187ff4207d30d7c09a7cc5db824143b2413a6ccb4115355e914c15356f138376372c0852a2753205d7c52e0505de915c8f411f364226fedd06bde671a1121c33f93136c c366_4
def c366:AFn:=⟨2,56,[.tmp 4],yB 5 0x5ec5c974dd8b559712b1bc c366_7⟩
def c367_2 :=yM 42 0x80996135d517d994bb61bba0bedf8ab1291a11b16f3488968e667cf5381e91d8e4d432d8af67893cea53ea5ea961ce45f19d37c22f57eac124f772fdd386d1778da490d4c8b2b5b60f6b4662b5f83d404b29aef15806188ceb5caf6f2671383688cb24e8eea0ac3a920186ce65a744fd0a6a7943feeba533cf32203d3f6cc (.lookup (.leaf (.int .i64)) (.agg [.i 0,.i 0,.i 0,.int .u64 0,.int .u64 0]) true (.t 14) (.t 15)) (.build [.i 0,.i 0,.i 0,.int .u64 0,.int .u64 0] [])
def c367:AFn:=⟨2,42,[.cellN 4 5,.tmp 5],yB 6 0x22441b5496a42bdfed9310112c c367_2⟩
def c368_2 :=yA 23 0xadceae5ca16b6f4258e06b5ede0dff8db9938590c50ba51e895c027b1ee13536ec2c2b87cea979a118942ae54a720c4e5ba34a6e245dc3eef100227082f719a7b5485265674dc5b9c4a62f926a86d2837171bc
def c368:AFn:=⟨2,23,[.tmp 4],(c368_2)⟩
def c369_3 :=yE 48 0x2ece0c1d2b848ada344d4af58976638006394d00a1ccf5fff6a16c7626d79a473657ea38257d4b9b6d6b6b3b60eb81e6831f7cad97b976bc0b8454810cd867f1d649b2e77b2f73e8b3438764acf0dcda5515f017c1a503174f148517bf757460591e1983fcc55d13dfba8f43bdfcbc98f26a067c510316bba21a20c3b9760247521618d1 (.maxI [(.c (.i 0)),(.t 25)])
def c369_4 :=yB 49 0x16ed45b41b32abadbb6d727cdfe4e04c88ba167e52d7f638109f1089a79d191bc c369_3
def c369:AFn:=⟨2,49,[.tmp 4],yB 5 4789559279849628 c369_4⟩
def c370:AFn:=⟨1,5,[.tmp 2],yA 5 0x161cd6554fc811380c687435ca64509c⟩
def c373_0 :=yA 14 0x573fbcb6111317440ec1761a49822362a8532113f7cab82e20a6c9e2c05f6b9cf8f7e0ef51c
def c373:AFn:=⟨2,14,[.tmp 3],yB 4 0xd9cdcdc9cf09c c373_0⟩
def c374_0 :=yE 8 0x97181ddba60b4efbf0d920060b3ddb1b56880c68f073dd106732334e10 (.eq .slice false (.t 3) (.c (.nils)))
def c374:AFn:=⟨1,8,[.tmp 2],yB 3 532661096604 c374_0⟩
def c375_1 :=yA 13 0x404468becfc215bc029fe1fae36844be8d77081adaf3cbe7490a321ef674e6164d9239a70d1704cef32c520253644550177a728c204e9f673b12c
def c375:AFn:=⟨2,13,[.tmp 4],(c375_1)⟩
def c376:AFn:=⟨1,5,[.tmp 2],yA 5 0x161cd6554fc8212b54065a75ca64509c⟩
def c379_1 :=yA 13 0x378fbd8c87ae5d63eda6ea4bb54394893415caaa81427aa8f640be48af07667d654cd0e19d5f534550177a728c204e9f673b12c
def c379:AFn:=⟨2,13,[.tmp 4],(c379_1)⟩
def c391_2 :=(uF (fun a b c d e f g=>jA 19 0x11e53280c22c52cb34a1453d933eeb1a1141fac7c989afd49bb162e81e3e647e89e6426abd2a4aa6ba1e6e716ab670f5dfa0ecfe99d36f9114abdfacb65c848f50ba94c73434e10 4 3 0 [a,b,c,d] [e,f,g] []) _) (.int .u32 65536) (.int .u64 16) (.int .u32 256) (.int .u64 8) (.convInt .u8 (.t 14)) (.ixStr (.c (.str [0,1,2,2,3,3,3,3,4,4,4,4,4,4,4,4,5,5,5,5,5,5,5,5,5,5,5,5,5,5,5,5,6,6,6,6,6,6,6,6,6,6,6,6,6,6,6,6,6,6,6,6,6,6,6,6,6,6,6,6,6,6,6,6,7,7,7,7,7,7,7,7,7,7,7,7,7,7,7,7,7,7,7,7,7,7,7,7,7,7,7,7,7,7,7,7,7,7,7,7,7,7,7,7,7,7,7,7,7,7,7,7,7,7,7,7,7,7,7,7,7,7,7,7,7,7,7,7,8,8,8,8,8,8,8,8,8,8,8,8,8,8,8,8,8,8,8,8,8,8,8,8,8,8,8,8,8,8,8,8,8,8,8,8,8,8,8,8,8,8,8,8,8,8,8,8,8,8,8,8,8,8,8,8,8,8,8,8,8,8,8,8,8,8,8,8,8,8,8,8,8,8,8,8,8,8,8,8,8,8,8,8,8,8,8,8,8,8,8,8,8,8,8,8,8,8,8,8,8,8,8,8,8,8,8,8,8,8,8,8,8,8,8,8,8,8,8,8,8,8,8,8,8,8,8,8])) (.t 15)) (.convInt .i64 (.t 16))
def c391:AFn:=⟨1,19,[.tmp 2],yB 3 0xa53036736509c c391_2⟩
def c398_1:AC :=
 sQ (rG [qQ 0 2 (.alloc 1 [.bool false])] [0,2]) (sQ (sQ (rG [mV 0 3 0,aA 1 4 403 3] [0,2,4]) (cD 4 (rT [.mk4 0 none (.store 1 (.t 2) (.c (.bool false))) none] [2]))) (sQ (sQ (rG [mV 0 5 0,aA 1 6 404 5] [2,6]) (.block 0 (.rangeFunc (.t 6) [7] [2] (.skip) (.block 1 (rT [.mk4 0 none (.store 1 (.t 2) (.c (.bool true))) none] []))))) (rT [.mk4 0 none (.store 1 (.t 2) (.c (.bool false))) none] [2])))
def c398:AFn:=⟨1,8,[.cell1 2],(c398_1)⟩
def c399_0 :=yA 8 0xdbd1dd0e5c7a944c5a80b6ac3c21a46bf9428d09c
def c399:AFn:=⟨1,8,[.tmp 2],(c399_0)⟩
def c400_2 :=yE 22 0x286070573beba0fd5b4c0d84b1d2c665967b2afdc0a6d58412304a90055edd681b9f84f705e6b05f99dd170b867f26079a793624147ae853d88edc44a78c10fb86905518f76deb5e4e5509c (.build [.i 0,.i 0,.i 0,.i 0] [(0,1,(.t 17)),(1,1,(.c (.i 3))),(2,1,(.t 18))])
def c400:AFn:=⟨3,22,[],(c400_2)⟩
def c401_6 :=(uF (fun a b c=>jA 52 0x61e8ed2d7d70bcccf05f24f56d2f36cfe1ed6ab34d2c603d79101fbe1f1a85a43263a0c4eb63c52e0500ce591bf85305245f0530699ee4455402f8bf14d14283ace0315a107d1890c99e5546dcdd00441022fb7c8f30da8aafef6f35e0ed085df006289e6625a152cdaa1b7941a5b8a0804efa104f2d51b4b332633c03065c993784b829106e2d99a05fe61a11e363f7c5135c4d00baa04ac5e4e57bcc4b882effc9214f9573af02cfd8db09c 0 3 0 [] [a,b,c] []) _) (.build [.i 0,.i 0] [(0,1,(.t 38)),(1,1,(.c (.i 2)))]) (.build [.i 0,.i 0] [(0,1,(.t 46)),(1,1,(.c (.i 4)))]) (.build [.i 0,.i 0] [(0,1,(.c (.i (-1))))])
def c401_7 :=yB 22 0x26e272a041df9baeac0aafc6117515336e7ac5dbe5174cd7677a7e9a036cc c401_6
def c401:AFn:=⟨3,52,[.tmp 6],yB 7 0x17d6b92b404d09c c401_7⟩
def c402_0 :=yA 11 0x143400438a5a0a35456afc7868d1c843031a9b9ec55
def c402:AFn:=⟨2,11,[],yB 4 0x35fccc57fc709c c402_0⟩
def c403_0 :=yM 12 0x28acf3629c132e18fa91427e983a6c4f35b1616f5ac (.eq .ptr false (.t 3) (.c (.ptr none))) (.eq .ptr false (.t 9) (.c (.ptr none)))
def c403:AFn:=⟨1,12,[.tmp 2],yB 3 532422217884 c403_0⟩
def c404:AFn:=⟨1,4,[.tmp 2],yI 4 0x3e74bc8c76a4aa590df662612c (.nilfn) (.mkClo 408 [(.t 1)])⟩
def c405_4 :=yE 40 0x43a7781ea0473b0d88b36ece5902d3d7b9282ee0a2ee896d2e4e6352a855befb720c910ef95e8a1d5934aae629f2f749ccffea93cc3d8e8b6c6a5959a2aa6da309e66e0006405a1f0d1bd8fa9a5a5f96c4b96addd61be8a8d9af4114b5a88c2a05b937eff2f9d11748576cc1e0a2231fd65d8d24b7d1a55b0c1370fcd9fe7917ffbf939bff1cd658cdb482c78d4d0 (.build [.i 0,.i 0,.i 0,.i 0] [(0,1,(.t 31)),(1,1,(.t 33)),(2,1,(.c (.i 256))),(3,1,(.t 34))])
def c405_5 :=yC 12 0x813aa2f5737bc353117b7fe9dfbfd00ed2976154fbea05079345a8ca (.label 0) c405_4
def c405:AFn:=⟨2,40,[.tmp 4,.tmp 5],yB 6 0x163572952141eb112c c405_5⟩
def c406_3 :=(uF (fun a b c=>jA 74 0x9588124033ea7d03b28de881b0dc7fcb1d6c7b7d158ac9e33f5bf261dc1c8d51fa955b4a544ebd085996c71be3e5102196972332e0c92be8579287a3b15b33ff98c503fd7cad8efdcaae6deaf9af6e2f2260b77d1ee2b80ac640f4610106d94dd89b8908f1d33840a721296063fc782fff28ec04aea87e684cc99538d39cbca1da4a8 0 3 0 [] [a,b,c] []) _) (.lookup (.agg [.int .i64,.int .i64]) (.agg [.i 0,.i 0,.bool false,.int .u64 0]) false (.t 44) (.t 45)) (.mput (.agg [.int .i64,.int .i64]) (.t 62) (.t 63) (.t 64)) (.mdel (.agg [.int .i64,.int .i64]) (.t 72) (.t 73))
def c406_9 :=yA 19 0x34a1c9acb4121259e163a7eb8441e08ab2435e18615501929627c94b5881513b50a02a09e02d094283651bc
def c406_10 :=(uF (fun a b c d=>jA 76 0x36037a06128bf6f73308f3c19d3a1b611673202273691d0b3bd03ff21abcce2a525ea6306cfebffe3a76cd4fd396bf57378aec58eb6c7bc8d19ee07ebb6c0236f38c162ff8c3f4f66984b3a74e110fac5cae2d821763b3893dedac6e718d0c5142e8b34c193400a720a48bd57b01986fe4306d7127725ccf03d86e84a76b24701eb02bbdc80f36c 0 3 1 [] [a,b,c] [d]) _) (.minI [(.t 25),(.t 27)]) (.slice 4 (.t 24) none (some (.t 28)) none) (.build [.i 0,.i 0] [(0,1,(.t 37)),(1,1,(.t 39))]) c406_3
def c406:AFn:=⟨3,76,[.tmp 6,.tmp 7],yC 8 0x1a576e82a4b37c29fb95512c c406_9 c406_10⟩
def c407_3 :=yA 67 0xc1be63d37ed637cac7881ad03247bc42276dc6d181b8498ebf3af13529a5c711173607fbde5f0fb36e5ccdb2696434ab64d72ecf1006405cb8b3c704dbcfa00ea1e3a20c593c36fdf47464803cd5f41b27736d91202e96cf65a68715874ce1cadd39d5915c7391ad916d295d4a784cae147ba55d86675bc14056d5930df88e7e47a2136d59bb42bb5ba5d87ccc678895fc2730be2e150
def c407_7 :=(uF (fun a b c d e f=>jA 69 0x3d1cecc4d52147bff73dc24c13991c69e9aacff1c4d540dd813527e4bc0f9b71ba1ae43caf56fa0188ff7c3ffdda479c5d388c7920849ba5942dbd0e5267305723b3bdca644124479d188efcc8c5bc6f1ec15ddb9b15be8300b793b14636b036d22424d8faf50a28b9a1b06eb5a20fd881669bfddfb29cf0393f0af35a2be9049774f8fd3c16cadb90 0 5 1 [] [a,b,c,d,e] [f]) _) (.build [.i 0,.i 0] [(0,1,(.c (.i 2))),(1,1,(.c (.i 1)))]) (.build [.i 0,.i 0] [(0,1,(.c (.i 4))),(1,1,(.c (.i 2)))]) (.build [.i 0,.i 0,.i 0,.i 0] [(0,2,(.t 9)),(2,2,(.t 10))]) (.ixA 2 2 (some 2) (.t 11) (.t 12)) (.build [.i 0,.i 0,.i 0,.i 0] [(0,1,(.t 28)),(1,1,(.t 30))]) c407_3
def c407:AFn:=⟨1,69,[.tmp 2],yB 4 0x12dd3e71ef50e58bbf7612c c407_7⟩
def c408_3 :=yE 28 0x2ef40a075e4909fb20d8a9add23c96f958b2d6bed5634dc9098916be1a243dd2732b92044b69ee008df77e86124a92e48e17309f7b9f8e6007c80956d17721b4fb4c7013d4fff2572936edd89a44008f4c8ef99ab049fab4a2b2d3dd9972c82c715d7fc0d569d510caae24cf84bd796724c (.callv (.t 22) [(.t 23)])
def c408:AFn:=⟨2,28,[],(c408_3)⟩
def c410_1 :=yG 100 0x1e6e87c7a6cd4773cf6ceb0c1117dbf63875412cb4909e5626c0f5e1da1ccd04c198b62cd51cacb59cef6438888e10e1c6696e796dee2fc32b3ca4b27e00f5c27a4f15de1e046081bd90d1bd0fec7268e435889058f7aeb5f86df8b7414873acb26293f9e931d7ecb791ccd6419fe8b4575b3c6fc3ed7c6e7bbe295150e910 (.i 128)
def c410_5 :=yB 72 0x3bd4b93b37c21ea84432951470c49fbb44d4d5c21900d8f4b188a91e8e28b4396cf284f8387026ccba4953e205fd390fa70975dfb455b003cebaf15296804f7682fba46252ed97966699f845803ffc563d683301a2ff18837369ced0f7510229be67414fb7da928 c410_1
def c410_7 :=(uF (fun a b c=>jA 41 0x3903b3ca64d5143fdaf73fca0364b97a0b5ba73f3f1430ea9ac2a954c835e3ff6af7ba4be8a7f762afc5426af896b961bc2fd0947e63f77e5dc3ea00b9e80c540cc07e20d61e8fe95b9885011cd46a49eaec58d8a7f7ff482123b3c9796ee14e2e5a6581f45a6913db968c1e0650803d8697647a318bfad5c864df6e8e2edf2e2830b53853360047685d6762d8dc8c8cce3f283efec4b8 0 2 1 [] [a,b] [c]) _) (.lookup (.agg [.int .i64,.int .i64]) (.agg [.i 0,.i 0,.bool false,.int .u64 0]) false (.t 13) (.t 14)) (.build [.i 0,.i 0,.i 0,.i 0] [(0,1,(.t 17)),(1,1,(.t 19))]) c410_5
def c410:AFn:=⟨2,100,[.cellN 4 4,.tmp 5],yB 6 0x66f83e8e8fbca173a75820cac31bc c410_7⟩
def c411_2 :=yE 109 0x7be517d57a14af9390e7081dad8c620cd4ff4a239cf70beddbd4b8d4b38202c00e40100e02785d624d8fd750491c10d2ec0a5fcae7d3d23141e97501449d483b938f7c68e0719ad521c2444ab44d9931746be427bc0bc254ccc7f1850 (.mput (.agg [.int .i64,.int .i64]) (.t 106) (.t 107) (.t 108))
def c411_7 :=yJ 84 0x88ef3fcb12e7fd8c4998a1a5572b285882530caaeb5385546c664a0eefe8f5c8503f1c861f678dc0d6b913dd1550a04203f0685c36fa3f5b3a667eea089cd28 (.i 56) (.build [.i 0,.i 0,.bool false,.int .u64 0] [(0,1,(.t 69)),(1,1,(.t 72)),(2,1,(.c (.bool true))),(3,1,(.t 82))]) c411_2
def c411_8 :=(uF (fun a b c d=>jA 122 0x173926ce93fc93ea8f2980f237f8033080b5873f0d65d68396320226163a394a7a89ce2ebd34ffeecbb8fd58f1728f096611623f157afce3f4c397357b8f50798952d58182b27757438bd4a23e1e4d68031d7c1155c508edaf658c2473a82edaa7670456a686429c845b1ec60027c255d4cda0894e22902ddd04b067f2dc 1 2 1 [a] [b,c] [d]) _) (.i 151) (.mdel (.agg [.int .i64,.int .i64]) (.t 120) (.t 121)) (.mput (.agg [.int .i64,.int .i64]) (.t 61) (.t 62) (.t 63)) c411_7
def c411_13 :=yB 50 0x7b7777aef7068f7102089bbf058465a662eba3546af20e9b8046809ad16d66e15e9539cf912eb6d2a4a88112450045fe6d83890a588c15b46411b776cc2eb61a12371bc17e3e0a2b30099d45e71fad40477818ff2c69f8b7fa0c9c7cd3eb45f5ac4e7a71657a34f94b327934b3f4f785c495f030ec15fc3e587a3b432845be995e4241dcd0bb5e4cdf324b6d8d64439d92c757ff4445078560c52f34e509c c411_8
def c411_14 :=yF 20 0x1318a0df07799393c14b06942b51133d5c740a1892fbeef0288af779c8001bd8a296fe0b3e2bfd14493fc (.build [.i 0,.i 0] [(0,1,(.t 13)),(1,1,(.t 15))]) c411_13
def c411:AFn:=⟨2,122,[.tmp 4],yB 5 0x5bbfb66e8e7c28512c c411_14⟩
def c412_3 :=yE 48 0x2ece0c1d2b848ada344d4af705bda30444396e9eee202f0ec146a2240dd5c483f09b0c43bb5818b4b48db409308acd79063dff29adeee1d66209a12295fd8a85fefcc16215a81d2aac747131e3f0dcda5515f017c1a503174f148517bf757460591e1983fcc55d13dfba8f43bdfcbc98f26a067c510316bba21a20c3b9760247521618d1 (.maxI [(.c (.i 0)),(.t 25)])
def c412_4 :=yB 49 0x16ed45b41b32abadbb6d727cdfe4e04c88ba167e52d7f638109f1435e1c2191bc c412_3
def c412:AFn:=⟨2,49,[.tmp 4],yB 5 4789559279849628 c412_4⟩
def c413:AFn:=⟨1,5,[.tmp 2],yA 5 0x161cd6554fc8c8a5c4004c15ca64509c⟩
def c414_0 :=yA 11 0x12ee82472db1c9f17b575da67a5f078df4ac35a0644da196f493cd64e10
def c414:AFn:=⟨2,11,[.tmp 4],yB 5 0x5bbfbc4c402005d12c c414_0⟩
def c415_3 :=yE 45 0x2ce44b11c695a008ab5acfba79c1623436bd63c0c0150e417764d0900606fd34ff25066f9fa6c6e7103bcf2de8c0d9c3cccee7070af38b1708b8dbb779db2a2595c947c0be3a5c417d5108f91faf3b6f593dfdaa7d38613260d4e8aa3205235d118420e8ad97d6e1588a479052d1959d6e46b638230d25098cdcf04ff8ad5e16a9c8fb6a8 (.lookup (.agg [.int .i64,.int .i64]) (.agg [.i 0,.i 0,.bool false,.int .u64 0]) true (.t 14) (.t 15))
def c415:AFn:=⟨2,45,[.cellN 4 4,.tmp 5],yB 6 0x66f83e8e901fb211303620cac31bc c415_3⟩
def c418_0 :=yA 13 0x198e4551ae400130f7d4a71a6437862973fc
def c418:AFn:=⟨2,13,[.tmp 4],yB 7 0xc0b0b69a2cf3d1d395451b86a1a7f73f660e0cc909c c418_0⟩
def c419_4 :=(uF (fun a b c d e=>jA 31 0x39df0bc689ef17872395b1da01db13f938e4e2f3f7bef75e2a97ad3a4f94de43800b4cdede9073ec6f7074c70410a4cf2bfac0ed9207f3e69d633cefd07ba537d0849bbffb56dd29d56fd62ef3bbcff705209746f37293f467bea2c1159f16798281fddd8dfea4b37b7e4e45c5b90 1 4 0 [a] [b,c,d,e] []) _) (.i 127) (.callv (.t 20) [(.c (.i 1))]) (.callv (.t 22) [(.c (.i 6))]) (.callv (.t 26) [(.c (.i 2))]) (.callv (.t 28) [(.c (.i 60))])
def c419_5 :=(uF (fun a b c d=>jA 41 0x17c4626eb8bd3a435c346e25b448e3f2b8c9ae5cb74455763c 0 4 0 [] [a,b,c,d] []) _) (.callv (.t 31) [(.c (.i 4))]) (.callv (.t 33) [(.c (.i 8))]) (.eq .bool true (.t 32) (.t 34)) (.callv (.t 37) [(.c (.i 48))])
def c419:AFn:=⟨1,41,[.tmp 2],yN 5 0x3406d368e5e5807ec2a8817ac1e12c (.mkClo 423 [(.t 1)]) c419_4 c419_5⟩
def c420_0 :=yE 8 0x97181ddcc91a3491b72c9e3d4fbd7c7f08080c68f073dd106732334e10 (.eq .slice false (.t 3) (.c (.nils)))
def c420:AFn:=⟨1,8,[.tmp 2],yB 3 532661096604 c420_0⟩
def c421_1 :=yA 13 0x48af629b547466a0ec33a3364c630d6968d98150436bce8bf90807eb1fbcf675368885194c3f4fd125b704e30a7e1e3644550177a728c204e9f673b12c
def c421:AFn:=⟨2,13,[.tmp 4],(c421_1)⟩
def c423_0 :=yA 9 0x3a6f8dc524efac4a65d57edbef23c3d3f6a008c703a709c
def c423:AFn:=⟨2,9,[.tmp 3],(c423_0)⟩
def c439_0 :=yA 16 0x9bb1682da5d0ff4b0339e2c866b9c21b6f85b80b92e05c7d8c115851c42b31c279e91dd9a04c86fa32b718302251878f5a0d336cc
def c439:AFn:=⟨2,16,[.tmp 4],yB 5 0x59cba388ab2e3e312c c439_0⟩
def c440_5 :=(uF (fun a b c d=>jA 60 0x1de2c840ece3b9ec9ac2cfa32efbf7287626aa1e20eeb8372032bf944a17c9d0a6402f33d49b42fba5687dc1558b2d81feb15faa31474c696d5a73556b221459c3c3e0a0bac1886c7bb2fd694a31f5b3ed2fb788977e878e1b6ec918e690dd7e77c44ffd695f69861a91fa02fd9c7559ed4cf728ab601aec8329d7cd9ec3ac7e11c8aae3dd8db160ffddc4a1cf15b90 0 4 0 [] [a,b,c,d] []) _) (.lookup (.leaf (.int .i64)) (.i 0) false (.t 42) (.t 43)) (.mput (.leaf (.int .i64)) (.t 42) (.t 43) (.t 45)) (.lookup (.leaf (.int .i64)) (.i 0) false (.t 54) (.t 55)) (.mput (.leaf (.int .i64)) (.t 54) (.t 55) (.t 57))
def c440_7 :=yJ 35 0x300400a662f51e0108c92877ebe33ebada3224e292bf8d625bed172738bd7c109d3b36b799ff12f8fa7f3a404dd00362866f24f4fe4cb7b9a465ac3f6816648cd385e59a3945bf2f9cad3704e91876cd2a872841c2fba19dfbd8ead16750c1d8eb45f37205a7ebf366c87ee4154bc3583bad5f4e438 (.map none) .mkMap c440_5
def c440:AFn:=⟨2,60,[.tmp 4,.tmp 5],yH 6 0x8ca37d0206337c07e011bc (.map none) c440_7⟩
def c441_1 :=yA 29 0x1c687802fc850e60be1135960845c70f34935396968b4a69c3988d9509fa97c222e48b09f67efb25876f8a1f883e2ae0bdd7873dc2c7a7513c95344cba23560f10ddec72216ce590c
def c441:AFn:=⟨4,29,[.tmp 8],yB 9 0xad17864eef10e2f1db6c131bc c441_1⟩
def c442_0 :=yA 10 0x6673dc282223f6973ccba5746ffa77748b305ef36c
def c442:AFn:=⟨2,10,[.tmp 4],yB 5 0x5ec5c974dd767a303531bc c442_0⟩
def c443_4 :=yA 73 0x20fe17706e574f77b1603fe7a6fc547fb5445668256ff2ee7e3aec59a5daf7a7401650b29bb2804b3fc
def c443_10 :=yB 70 0x13e653137d5cb90cb4f71d67f6c1ede6aff13abed75d29932cd0bfda77e2348433a9f053bb2182f92357450cf792f1f253f58f377e33d39f3a30f96a9b09250689f3b1a000e91be8d9c7b31b8ed0bd974289ca9d4d1ccc173fa3c716971c7be1d63fb4b2edda76f2dea85f30b6618782f23b2f54eaadcec2b44ab4b8bed0da1ac92cb14a3d0cde48e2140bf46d8c25903b90b1dcbbd92e59489597bd97aea7180050dc7a470666cf925ccdb90 c443_4
def c443_11 :=yF 36 0x77d59dfffe46e963c85223cdf6a11a6095a604b873d84fa4a5da672a940484a4bed002f933bd5a3f39d5f296908413d0ba71e324f81947fcad1bd9a4a0ad05ca0d28f9adfb1583521b210700079a765d796d2ce1745dc233d9aa692d83f2b0ddd520990b517f770d41f38c9419eead5740b2e06c219929ad8317fed182355e40332657f509d0d7b12994ea9f45da4bc1a2804473aa4b52681e172cb322792c4ca5e23bb6ff1eda62a9bdd93ed6df7676d3c264809b7cab7e93fc (.eq .ptr false (.t 15) (.c (.ptr none))) c443_10
def c443:AFn:=⟨4,73,[.cellN 8 2,.cellN 9 2,.cell1 10,.tmp 11],(c443_11)⟩
def c444_0 :=yA 6 0xafdb17cc8a2ad476f9efe7ef1ecc83416f1b2ce12c
def c444:AFn:=⟨1,6,[.tmp 2],(c444_0)⟩
def c445_0 :=yE 16 0x32188e6ef92aed7e713a8ed08f5aec6a31040bfab9bb2feedaeb24d9b416d31f7e68b9b2bf3536cc (.build [.int .u32 0,.int .u32 0] [(0,1,(.t 9)),(1,1,(.t 14))])
def c445:AFn:=⟨2,16,[.cellN 4 2],yB 5 0x104763ab825402980a4303531bc c445_0⟩
def c446_1 :=yA 15 0x10cf3e8f14727b086e5db3edfaf7ccc3760c05ee6b1087bf5a9a1df66ce8a1e5832d0a73f04cce42b667543f58f5f0567bdae649d4d0
def c446:AFn:=⟨1,15,[.tmp 2],yB 3 0x2cda1dfb2ce12c c446_1⟩
def c447_2 :=yF 23 0x7f025f6bd5b0ce306fba123960152faf3933ee08e1df707011eefc02878f00bb9c238fd2034feeab8d929a76a94256e59c2254820d80a37d65e93026d9625efacec6911c9c9daa2dac9bf0ae7e6bed828cae763a6dfb24c (.field 0 none (.t 19)) (.label 0)
def c447:AFn:=⟨4,23,[.tmp 8],(c447_2)⟩
def c448_0 :=yI 8 0x1290ec49185ab4ce522a1666b2bf24f86ad31f24c (.nilfn) (.mkClo 451 [(.t 4),(.t 5),(.t 3)])
def c448:AFn:=⟨3,8,[.tmp 6],(c448_0)⟩
def c449_1 :=yA 29 0x10dd8a95a64b6337d9b53eeab38bac2d1af1096b51ecc284a3bcf9a76c6e32db6664bbe63cdd62d289053966c5c14a3a695c48d560723c03a3ee26c0cd0f4d06ec0905de91f2a754adbc46ec79a9123424073fbe78c2f68410
def c449:AFn:=⟨1,29,[.tmp 2],yB 4 0x12da2e749182455db21612c c449_1⟩
def c450:AFn:=⟨1,4,[.tmp 2],yI 4 0x3e74bc8c76a4aa590df72ce12c (.nilfn) (.mkClo 454 [(.t 1)])⟩
def c451_3 :=yE 35 0x6af30f05d7e93f91a2fd64c095a047251c9d3ae1b8600f5cc071bcc2c23c04cdfacd4332a9336545a9908ee852c8f64f5d6fd371b8f67e831c2f998948d565cfbf5dd609d16e39d00dff97943459bdf643f88539b211949e6404d28d38fbf242c23f7f3a2475786f675e3cfaa211beab0bba9c77e6c57f156f7c9f639ffc88a74af18d5883c7e674e36b4d3d6b933d703e8b54e90cab649523a6f0ca26eab48c (.callv (.t 29) [(.t 30),(.t 31)])
def c451:AFn:=⟨4,35,[],(c451_3)⟩
def c452_1 :=yA 16 0x2ce6030e8ea8c74b70fffc49b9a8d7fdd1f5204f2499d0c0afd3ed79b5664c83fbe7bd9f6554a9f23a57199b01ee7ba71e87d5074ce9e0627ce10
def c452:AFn:=⟨2,16,[.cellN 4 2],yB 5 0x104763ab82540297c78513531bc c452_1⟩
def c453_0 :=yA 18 0x343cd2cc69dcb4c20f70477b362b52ebd86da48f7a1fe488ee915c0be82bf524151e0351e4737ec
def c453:AFn:=⟨2,18,[.tmp 4],yB 5 0x59cba388ab2655312c c453_0⟩
def c454_1 :=yE 17 0x20197304539dcf13cf7b7d2ee57ecd8c07c03b65eaee1653bcbd75653cbcdbe154e349ef20b2f67a64ad6d5f13d638107e7e10540c43d2fec709c (.callv (.t 11) [(.t 12)])
def c454:AFn:=⟨2,17,[],yB 5 0x131b60591b69a41909c c454_1⟩
def c455_1 :=yA 17 0x104620ca25634dc9c3fc31752185db39e2fc57b2f3cabce8550f08f9ff2da4f5807e620bc2f15c36e2cd8f80733c9444573dea50230a9774dd1306963efb12c
def c455:AFn:=⟨2,17,[.cellN 4 2],(c455_1)⟩
def c456:AFn:=⟨2,8,[.tmp 4],yA 8 0x4ca912ac4b8ef41fbbc4be8ef74335b925109c⟩
def c457_4 :=yI 64 0x194980ba1796a8726c8753ed66a5030247d12fd0c2153fd9cc656ac22c080e22bb1503a9520fec9672f36ecfd6140bfa8fbf7aaea328c60d451093d896b353e9676e029c45f188a5bec7c3115ad25d82f5609eaef1562796e98063286173930d52544b331ec81223cdbc4d67a54dc031106f86d185de78b689577f5f040de98b77e0bb9ef9843dbb0b94edaf1be7684fe2b960369634643efd0 (.map none) (.mput (.leaf (.int .i64)) (.t 57) (.t 62) (.t 63))
def c457_8 :=yF 67 0xe8cb59428f4f74d74c112920ac3da99207264d5b7a72dcf772c25dcc233605b0f789c00eac7c61eb57092728d27f34ab08bd3b1845ba455105ef858bb92c34293e0916ab7eccddc37697c6425d6c42d00510ee30d149595a022eb93b8d3d4c9b45be19c6b203cfe98fe49c22b92d242db24f102e188b7895ac .mkMap c457_4
def c457:AFn:=⟨2,67,[.tmp 4,.tmp 5],yH 6 0x1635729522d097112c (.map none) c457_8⟩
def c458_2 :=yB 18 0x15164320207d5e69c65ae05844089960a6e5d1f434bbe336bfd551211191cea311204a70d30d7fe3be0427b799cab0466d2afcb988020a3c6921caee9b7b978370bd8e1780a0c492f16604e4d216f94304aca (.label 0)
def c458:AFn:=⟨2,18,[.tmp 4],yB 5 4789558881718428 c458_2⟩
def c459_3 :=yE 31 0x98f973949ff52f901552e6430b4ff6df6b0a8495bd20ed25da27828386bfbbdd2dba743548700dddf528b2771b1383667e1ebf3e59ba41cf0098cf6045c0e1a0b978cb5f6fba5dfad8a617f7c09b7173014fff58c283aa80a73cb5e60e5446c8f9c781d2ad715feff1c627a8014ab34c50a5b895b0a62588ce0d7f51c7e9cabf5b90 (.minI [(.t 26),(.c (.i 1))])
def c459:AFn:=⟨2,31,[.tmp 4,.tmp 5,.tmp 6],yB 7 0x1c2e621d6ba304737e11bc c459_3⟩
def c460_2 :=yK 23 0xc4ec2ffaf3d612fcabdee395cae0cc470ba714838ea0314b000278e1170c43f58cae3fb8ed363a81d626f6fbdc393c72d5f65005e412e369d771f2f9259c9eb405824c7b46de5d128b99e48c36f58ea6a210fd69e5bc6ff183154d0 (.i 25) (.i 28)
def c460:AFn:=⟨2,23,[.tmp 4,.tmp 5],yB 6 0x163572952108f7112c c460_2⟩
def c461_3 :=yE 23 0xaf20e8149765065d10476d7c174910e9e43693a373d7d5f3d0b9e288cd80131b4db472ba309fc5195c3f1c248edd31e654c522c9f822e79ae345b3e658076d4486137f267a9e31d8ba37ddd399e8be5f5c7c96fe378746527bed9c583bf71f238eb589fc83128f89a01d8bbcbac46f814e10 (.eq .ptr false (.t 7) (.c (.ptr none)))
def c461:AFn:=⟨2,23,[.tmp 4],yB 5 4789558483587228 c461_3⟩
def c462:AFn:=⟨2,6,[.tmp 4],yI 6 0xe5fb396e23889bd7ad9a4fec438fe311bc (.nilfn) (.mkClo 463 [(.t 3),(.t 2)])⟩
def c463_2 :=yE 19 0x89d387cd7e0c4818c96c762018b0c59fc30af917026af4673261de3f199707615f298f436770e164a2a7144d6358ca9783c226bc0c0ad7cc0686624d63cb45b62040bd5307fa075c411bc (.callv (.t 12) [(.t 15)])
def c463:AFn:=⟨3,19,[],(c463_2)⟩
def c464_5 :=yA 42 0x51430d081e583798444191987a1f321b8cd27ea1445d84aaadb3e5d0c65ab4397df3797ee7ae26b3a80af05f5ee12d43c2468aa14c10d07a24a5b90d46c9c864e3c36bb84db019a6c35d47ec6573667611070d349183cbe15c5d22976c8904acbf8ca2502a2750766926f5df449cc4131f658156c83c7d28e6d20230d4885d3e52287a4e26603dc2cbdf3309810505a7cc78256260fd16600d419c30459a94870270
def c464_6 :=yB 43 0x4a336442c7ffbafb318ab14b3d1f4051d483b446b26a4ede7e816d98884cf5877e4f36c2499c1736c c464_5
def c464:AFn:=⟨2,43,[.tmp 4],yB 5 0x5bbfb66e8e743f512c c464_6⟩
def jaG:Prog := { fns:=[(9,c9),(10,c10),(11,c11),(12,c12),(13,c13),(14,c14),(15,c15),(16,c16),(17,c17),(24,c24),(32,c32),(35,c35),(36,c36),(37,c37),(38,c38),(39,c39),(40,c40),(41,c41),(42,c42),(43,c43),(44,c44),(45,c45),(46,c46),(47,c47),(49,c49),(50,c50),(51,c51),(52,c52),(53,c53),(54,c54),(56,c56),(57,c57),(59,c59),(69,c69),(72,c72),(74,c74),(75,c75),(77,c77),(78,c78),(79,c79),(80,c80),(81,c81),(82,c82),(83,c83),(84,c84),(85,c85),(86,c86),(87,c87),(88,c88),(89,c89),(90,c90),(91,c91),(92,c92),(94,c94),(95,c95),(96,c96),(97,c97),(98,c98),(99,c99),(103,c103),(104,c104),(115,c115),(126,c126),(127,c127),(131,c131),(132,c132),(133,c133),(134,c134),(135,c135),(136,c136),(137,c137),(138,c138),(139,c139),(140,c140),(141,c141),(142,c142),(143,c143),(144,c144),(145,c145),(146,c146),(147,c147),(148,c148),(149,c149),(150,c150),(151,c151),(158,c158),(174,c174),(177,c177),(178,c178),(179,c179),(180,c180),(181,c181),(182,c182),(183,c183),(184,c184),(185,c185),(186,c186),(187,c187),(188,c188),(189,c189),(190,c190),(191,c191),(192,c192),(193,c193),(221,c221),(224,c224),(225,c225),(226,c226),(227,c227),(228,c228),(253,c253),(265,c265),(267,c267),(269,c269),(270,c270),(275,c275),(311,c311),(313,c313),(315,c315),(316,c316),(318,c318),(320,c320),(321,c321),(322,c322),(323,c323),(324,c324),(325,c325),(326,c326),(327,c327),(328,c328),(329,c329),(331,c331),(333,c333),(336,c336),(338,c338),(339,c339),(340,c340),(341,c341),(342,c342),(343,c343),(346,c346),(347,c347),(376,c376),(379,c379),(391,c391),(418,c418),(439,c439),(440,c440),(441,c441),(442,c442),(443,c443),(444,c444),(445,c445),(446,c446),(447,c447),(448,c448),(449,c449),(450,c450),(451,c451),(452,c452),(453,c453),(454,c454),(455,c455),(456,c456),(457,c457),(458,c458),(459,c459),(460,c460),(461,c461),(462,c462),(463,c463),(464,c464),(3,c3),(4,c4),(5,c5),(6,c6),(7,c7),(8,c8),(18,c18),(19,c19),(20,c20),(21,c21),(22,c22),(23,c23),(25,c25),(26,c26),(27,c27),(28,c28),(29,c29),(30,c30),(31,c31),(33,c33),(34,c34),(48,c48),(55,c55),(58,c58),(60,c60),(61,c61),(62,c62),(63,c63),(64,c64),(65,c65),(66,c66),(67,c67),(68,c68),(76,c76),(93,c93),(100,c100),(101,c101),(102,c102),(105,c105),(106,c106),(107,c107),(108,c108),(109,c109),(110,c110),(111,c111),(112,c112),(113,c113),(114,c114),(116,c116),(117,c117),(118,c118),(119,c119),(120,c120),(122,c122),(123,c123),(152,c152),(153,c153),(154,c154),(155,c155),(156,c156),(157,c157),(159,c159),(160,c160),(161,c161),(162,c162),(163,c163),(164,c164),(165,c165),(166,c166),(167,c167),(168,c168),(194,c194),(195,c195),(196,c196),(197,c197),(198,c198),(199,c199),(200,c200),(201,c201),(202,c202),(203,c203),(204,c204),(205,c205),(206,c206),(207,c207),(208,c208),(209,c209),(210,c210),(211,c211),(212,c212),(213,c213),(214,c214),(215,c215),(229,c229),(230,c230),(231,c231),(232,c232),(233,c233),(234,c234),(235,c235),(236,c236),(237,c237),(238,c238),(239,c239),(240,c240),(241,c241),(242,c242),(243,c243),(244,c244),(245,c245),(246,c246),(247,c247),(248,c248),(249,c249),(250,c250),(254,c254),(255,c255),(256,c256),(257,c257),(258,c258),(259,c259),(260,c260),(261,c261),(262,c262),(263,c263),(264,c264),(266,c266),(268,c268),(271,c271),(272,c272),(273,c273),(274,c274),(279,c279),(280,c280),(281,c281),(282,c282),(283,c283),(284,c284),(285,c285),(288,c288),(289,c289),(307,c307),(309,c309),(310,c310),(317,c317),(330,c330),(332,c332),(335,c335),(337,c337),(344,c344),(345,c345),(348,c348),(349,c349),(350,c350),(353,c353),(354,c354),(355,c355),(356,c356),(357,c357),(358,c358),(359,c359),(360,c360),(361,c361),(362,c362),(363,c363),(364,c364),(366,c366),(367,c367),(368,c368),(369,c369),(370,c370),(373,c373),(374,c374),(375,c375),(398,c398),(399,c399),(400,c400),(401,c401),(402,c402),(403,c403),(404,c404),(405,c405),(406,c406),(407,c407),(408,c408),(410,c410),(411,c411),(412,c412),(413,c413),(414,c414),(415,c415),(419,c419),(420,c420),(421,c421),(423,c423)],prims:=[(70,jiG 0),(71,jiF 0),(73,jiE),(286,jb0)] }
theorem jhv:jbh jaG:=jbh.of (List.forall_mem_cons.2 ⟨Am.pFmtU_F 0,List.forall_mem_cons.2 ⟨Am.pItoa_F 0,List.forall_mem_cons.2 ⟨Am.pJoin_F,List.forall_mem_cons.2 ⟨Am.jhz,fun _ h=>nomatch h⟩⟩⟩⟩)
def jnY:Prog := { fns:=jaG.fns,prims:=(121,pAdd jaG 100000 28 107 105 2) :: jaG.prims }
theorem primsA:jbh jnY:=jbh.cons (pAdd_F jhv) jhv rfl
def jnX:Prog := { fns:=jaG.fns,prims:=(409,jiD jaG 100000 28 415 1) :: jnY.prims }
theorem primsB:jbh jnX:=jbh.cons (pKeys_F jhv) primsA rfl
def prog:Prog := { fns:=jaG.fns,prims:=(365,pAll jaG 100000 28 288 373 2) :: jnX.prims }
theorem primsF:jbh prog:=jbh.cons (pAll_F jhv) primsB rfl
def cx:Cx:=⟨[(3,⟨.int .i64,1,8,(some (.i 0)),false⟩),(4,⟨.bool,1,1,(some (.bool false)),false⟩),(5,⟨.int .u8,1,1,(some (.int .u8 0)),false⟩),(9,⟨.str,1,16,(some (.str [])),false⟩),(22,⟨.array 4 3,4,32,(some (.agg [.i 0,.i 0,.i 0,.i 0])),true⟩),(23,⟨.int .i64,1,8,(some (.i 0)),false⟩),(26,⟨.slice 34,1,24,(some (.nils)),false⟩),(27,⟨.slice 44,1,24,(some (.nils)),false⟩),(28,⟨.slice 78,1,24,(some (.nils)),false⟩),(29,⟨.slice 3,1,24,(some (.nils)),false⟩),(31,⟨.struct [(0,26),(1,27),(2,28),(3,29),(4,3)],5,104,(some (.agg [.nils,.nils,.nils,.nils,.i 0])),false⟩),(34,⟨.struct [(0,3),(1,3)],2,16,(some (.agg [.i 0,.i 0])),false⟩),(35,⟨.slice 132,1,24,(some (.nils)),false⟩),(36,⟨.slice 9,1,24,(some (.nils)),false⟩),(38,⟨.struct [(0,29),(1,35),(2,36)],3,72,(some (.agg [.nils,.nils,.nils])),false⟩),(41,⟨.int .u64,1,8,(some (.int .u64 0)),false⟩),(42,⟨.slice 71,1,24,(some (.nils)),false⟩),(44,⟨.struct [(0,41),(1,4),(2,29),(3,42)],4,64,(some (.agg [.int .u64 0,.bool false,.nils,.nils])),false⟩),(47,⟨.ptr 108,1,8,(some (.ptr none)),false⟩),(51,⟨.ptr 64,1,8,(some (.ptr none)),false⟩),(56,⟨.slice 126,1,24,(some (.nils)),false⟩),(57,⟨.slice 246,1,24,(some (.nils)),false⟩),(62,⟨.array 96 3,96,768,(some (.agg (List.replicate 96 (.i 0:V)))),false⟩),(64,⟨.struct [(0,47),(1,62),(97,3)],98,784,(some (.agg ([.ptr none]++List.replicate 97 (.i 0:V)))),false⟩),(66,⟨.func,1,8,(some (.nilfn)),false⟩),(69,⟨.slice 5,1,24,(some (.nils)),false⟩),(71,⟨.struct [(0,3),(1,3),(2,3),(3,69)],4,48,(some (.agg [.i 0,.i 0,.i 0,.nils])),false⟩),(73,⟨.struct [(0,3),(1,3),(2,3),(3,3)],4,32,(some (.agg [.i 0,.i 0,.i 0,.i 0])),false⟩),(75,⟨.struct [(0,3),(1,3),(2,3),(3,41),(4,69)],5,56,(some (.agg [.i 0,.i 0,.i 0,.int .u64 0,.nils])),false⟩),(76,⟨.slice 75,1,24,(some (.nils)),false⟩),(78,⟨.struct [(0,3),(1,73),(5,4),(6,41),(7,76)],8,80,(some (.agg [.i 0,.i 0,.i 0,.i 0,.i 0,.bool false,.int .u64 0,.nils])),false⟩),(81,⟨.ptr 137,1,8,(some (.ptr none)),false⟩),(85,⟨.iface,1,16,(some (.nili)),false⟩),(88,⟨.ptr 145,1,8,(some (.ptr none)),false⟩),(92,⟨.ptr 158,1,8,(some (.ptr none)),false⟩),(101,⟨.ptr 170,1,8,(some (.ptr none)),false⟩),(104,⟨.struct [(0,4),(1,3),(2,3)],3,24,(some (.agg [.bool false,.i 0,.i 0])),false⟩),(105,⟨.array 96 104,288,2304,(some (.agg ((List.replicate 96 ([.bool false,.i 0,.i 0]:List V)).flatten))),false⟩),(106,⟨.slice 109,1,24,(some (.nils)),false⟩),(108,⟨.struct [(0,105),(288,106),(289,101),(290,41),(291,104)],294,2368,(some (.agg ((List.replicate 96 ([.bool false,.i 0,.i 0]:List V)).flatten++[.nils,.ptr none,.int .u64 0,.bool false,.i 0,.i 0]))),false⟩),(109,⟨.ptr 116,1,8,(some (.ptr none)),false⟩),(111,⟨.ptr 236,1,8,(some (.ptr none)),false⟩),(113,⟨.struct [(0,3),(1,3),(2,111),(3,4),(4,4),(5,41),(6,41)],7,48,(some (.agg [.i 0,.i 0,.ptr none,.bool false,.bool false,.int .u64 0,.int .u64 0])),false⟩),(114,⟨.array 2 113,14,96,(some (.agg [.i 0,.i 0,.ptr none,.bool false,.bool false,.int .u64 0,.int .u64 0,.i 0,.i 0,.ptr none,.bool false,.bool false,.int .u64 0,.int .u64 0])),false⟩),(116,⟨.struct [(0,114),(14,4),(15,3),(16,29)],17,136,(some (.agg [.i 0,.i 0,.ptr none,.bool false,.bool false,.int .u64 0,.int .u64 0,.i 0,.i 0,.ptr none,.bool false,.bool false,.int .u64 0,.int .u64 0,.bool false,.i 0,.nils])),false⟩),(121,⟨.struct [(0,4),(1,4),(2,4),(3,4),(4,4),(5,41),(6,41)],7,24,(some (.agg [.bool false,.bool false,.bool false,.bool false,.bool false,.int .u64 0,.int .u64 0])),false⟩),(126,⟨.struct [(0,3),(1,3)],2,16,(some (.agg [.i 0,.i 0])),false⟩),(132,⟨.struct [(0,3),(1,41),(2,3),(3,3),(4,3),(5,23),(6,69)],7,72,(some (.agg [.i 0,.int .u64 0,.i 0,.i 0,.i 0,.i 0,.nils])),false⟩),(137,⟨.struct [(0,27),(1,29)],2,48,(some (.agg [.nils,.nils])),false⟩),(138,⟨.ptr 196,1,8,(some (.ptr none)),false⟩),(143,⟨.map 3 76,1,8,(some (.map none)),false⟩),(145,⟨.struct [(0,47),(1,85),(2,81),(3,92),(4,143),(5,29),(6,35),(7,4),(8,4)],9,104,(some (.agg [.ptr none,.nili,.ptr none,.ptr none,.map none,.nils,.nils,.bool false,.bool false])),false⟩),(152,⟨.iface,1,16,(some (.nili)),false⟩),(153,⟨.map 3 73,1,8,(some (.map none)),false⟩),(154,⟨.ptr 212,1,8,(some (.ptr none)),false⟩),(155,⟨.ptr 221,1,8,(some (.ptr none)),false⟩),(156,⟨.ptr 278,1,8,(some (.ptr none)),false⟩),(158,⟨.struct [(0,47),(1,152),(2,153),(3,154),(4,155),(5,156)],6,56,(some (.agg [.ptr none,.nili,.map none,.ptr none,.ptr none,.ptr none])),false⟩),(167,⟨.array 32 4,32,32,(some (.agg (List.replicate 32 (.bool false:V)))),false⟩),(168,⟨.array 32 3,32,256,(some (.agg (List.replicate 32 (.i 0:V)))),false⟩),(170,⟨.struct [(0,167),(32,168)],64,288,(some (.agg (List.replicate 32 (.bool false:V)++List.replicate 32 (.i 0:V)))),false⟩),(188,⟨.iface,1,16,(some (.nili)),false⟩),(189,⟨.ptr 256,1,8,(some (.ptr none)),false⟩),(192,⟨.ptr 262,1,8,(some (.ptr none)),false⟩),(196,⟨.struct [(0,188),(1,3)],2,24,(some (.agg [.nili,.i 0])),false⟩),(206,⟨.struct [(0,3),(1,3)],2,16,(some (.agg [.i 0,.i 0])),false⟩),(208,⟨.map 3 206,1,8,(some (.map none)),false⟩),(209,⟨.array 96 29,96,2304,(some (.agg (List.replicate 96 (.nils:V)))),false⟩),(210,⟨.array 32 29,32,768,(some (.agg (List.replicate 32 (.nils:V)))),false⟩),(212,⟨.struct [(0,208),(1,209),(97,210)],129,3080,(some (.agg ([.map none]++List.replicate 128 (.nils:V)))),false⟩),(218,⟨.ptr 290,1,8,(some (.ptr none)),false⟩),(219,⟨.map 3 41,1,8,(some (.map none)),false⟩),(221,⟨.struct [(0,218),(1,219),(2,41)],3,24,(some (.agg [.ptr none,.map none,.int .u64 0])),false⟩),(236,⟨.struct [(0,69),(1,3),(2,3),(3,41),(4,41),(5,4)],6,64,(some (.agg [.nils,.i 0,.i 0,.int .u64 0,.int .u64 0,.bool false])),false⟩),(246,⟨.struct [(0,3),(1,3)],2,16,(some (.agg [.i 0,.i 0])),false⟩),(256,⟨.struct [(0,47),(1,3),(2,62),(98,3)],99,792,(some (.agg ([.ptr none]++List.replicate 98 (.i 0:V)))),false⟩),(257,⟨.ptr 326,1,8,(some (.ptr none)),false⟩),(260,⟨.iface,1,16,(some (.nili)),false⟩),(262,⟨.struct [(0,47),(1,260),(2,257),(3,3),(4,3),(5,3)],6,56,(some (.agg [.ptr none,.nili,.ptr none,.i 0,.i 0,.i 0])),false⟩),(263,⟨.ptr 329,1,8,(some (.ptr none)),false⟩),(266,⟨.ptr 268,1,8,(some (.ptr none)),false⟩),(268,⟨.struct [(0,263),(1,3),(2,257)],3,24,(some (.agg [.ptr none,.i 0,.ptr none])),false⟩),(269,⟨.ptr 332,1,8,(some (.ptr none)),false⟩),(272,⟨.ptr 274,1,8,(some (.ptr none)),false⟩),(274,⟨.struct [(0,269)],1,8,(some (.agg [.ptr none])),false⟩),(275,⟨.slice 338,1,24,(some (.nils)),false⟩),(276,⟨.map 3 3,1,8,(some (.map none)),false⟩),(278,⟨.struct [(0,275),(1,276)],2,32,(some (.agg [.nils,.map none])),false⟩),(283,⟨.struct [(0,3),(1,3),(2,3)],3,24,(some (.agg [.i 0,.i 0,.i 0])),false⟩),(287,⟨.ptr 342,1,8,(some (.ptr none)),false⟩),(288,⟨.slice 293,1,24,(some (.nils)),false⟩),(290,⟨.struct [(0,287),(1,288),(2,276),(3,41)],4,48,(some (.agg [.ptr none,.nils,.map none,.int .u64 0])),false⟩),(292,⟨.struct [(0,3),(1,41),(2,41)],3,24,(some (.agg [.i 0,.int .u64 0,.int .u64 0])),false⟩),(293,⟨.ptr 296,1,8,(some (.ptr none)),false⟩),(294,⟨.slice 292,1,24,(some (.nils)),false⟩),(296,⟨.struct [(0,41),(1,294)],2,32,(some (.agg [.int .u64 0,.nils])),false⟩),(303,⟨.array 2 3,2,16,(some (.agg [.i 0,.i 0])),false⟩),(326,⟨.struct [(0,62),(96,62),(192,4)],193,1544,(some (.agg (List.replicate 192 (.i 0:V)++[.bool false]))),false⟩),(327,⟨.map 3 472,1,8,(some (.map none)),false⟩),(329,⟨.struct [(0,47),(1,3),(2,327)],3,24,(some (.agg [.ptr none,.i 0,.map none])),false⟩),(330,⟨.map 514 521,1,8,(some (.map none)),false⟩),(332,⟨.struct [(0,47),(1,330)],2,16,(some (.agg [.ptr none,.map none])),false⟩),(338,⟨.slice 283,1,24,(some (.nils)),false⟩),(342,⟨.struct [(0,294),(1,276),(2,4)],3,40,(some (.agg [.nils,.map none,.bool false])),false⟩),(348,⟨.slice 41,1,24,(some (.nils)),false⟩),(354,⟨.struct [(0,3),(1,3)],2,16,(some (.agg [.i 0,.i 0])),false⟩),(363,⟨.int .u32,1,4,(some (.int .u32 0)),false⟩),(381,⟨.slice 354,1,24,(some (.nils)),false⟩),(431,⟨.iface,1,16,(some (.nili)),false⟩),(439,⟨.array 2 363,2,8,(some (.agg [.int .u32 0,.int .u32 0])),false⟩),(441,⟨.struct [(0,439),(2,439)],4,16,(some (.agg [.int .u32 0,.int .u32 0,.int .u32 0,.int .u32 0])),false⟩),(442,⟨.slice 447,1,24,(some (.nils)),false⟩),(443,⟨.slice 447,1,24,(some (.nils)),false⟩),(447,⟨.struct [(0,3),(1,3)],2,16,(some (.agg [.i 0,.i 0])),false⟩),(452,⟨.struct [(0,3),(1,3),(2,3)],3,24,(some (.agg [.i 0,.i 0,.i 0])),false⟩),(454,⟨.slice 452,1,24,(some (.nils)),false⟩),(464,⟨.slice 467,1,24,(some (.nils)),false⟩),(467,⟨.struct [(0,3),(1,3)],2,16,(some (.agg [.i 0,.i 0])),false⟩),(472,⟨.struct [(0,3),(1,3),(2,3),(3,41),(4,41)],5,40,(some (.agg [.i 0,.i 0,.i 0,.int .u64 0,.int .u64 0])),false⟩),(478,⟨.array 3 303,6,48,(some (.agg [.i 0,.i 0,.i 0,.i 0,.i 0,.i 0])),false⟩),(503,⟨.slice 507,1,24,(some (.nils)),false⟩),(507,⟨.struct [(0,3),(1,3),(2,3),(3,3)],4,32,(some (.agg [.i 0,.i 0,.i 0,.i 0])),false⟩),(511,⟨.slice 514,1,24,(some (.nils)),false⟩),(514,⟨.struct [(0,3),(1,3)],2,16,(some (.agg [.i 0,.i 0])),true⟩),(521,⟨.struct [(0,3),(1,3),(2,4),(3,41)],4,32,(some (.agg [.i 0,.i 0,.bool false,.int .u64 0])),false⟩),(523,⟨.array 2 303,4,32,(some (.agg [.i 0,.i 0,.i 0,.i 0])),false⟩)],[0,2,3]⟩
def ja4:List V:=[.int .u8 0,.int .u8 1,.int .u8 28,.int .u8 2,.int .u8 29,.int .u8 14,.int .u8 24,.int .u8 3,.int .u8 30,.int .u8 22,.int .u8 20,.int .u8 15,.int .u8 25,.int .u8 17,.int .u8 4,.int .u8 8,.int .u8 31,.int .u8 27,.int .u8 13,.int .u8 23,.int .u8 21,.int .u8 19,.int .u8 16,.int .u8 7,.int .u8 26,.int .u8 12,.int .u8 18,.int .u8 6,.int .u8 11,.int .u8 5,.int .u8 10,.int .u8 9]
def ja3:List V:=[.int .u8 0,.int .u8 1,.int .u8 56,.int .u8 2,.int .u8 57,.int .u8 49,.int .u8 28,.int .u8 3,.int .u8 61,.int .u8 58,.int .u8 42,.int .u8 50,.int .u8 38,.int .u8 29,.int .u8 17,.int .u8 4,.int .u8 62,.int .u8 47,.int .u8 59,.int .u8 36,.int .u8 45,.int .u8 43,.int .u8 51,.int .u8 22,.int .u8 53,.int .u8 39,.int .u8 33,.int .u8 30,.int .u8 24,.int .u8 18,.int .u8 12,.int .u8 5,.int .u8 63,.int .u8 55,.int .u8 48,.int .u8 27,.int .u8 60,.int .u8 41,.int .u8 37,.int .u8 16,.int .u8 46,.int .u8 35,.int .u8 44,.int .u8 21,.int .u8 52,.int .u8 32,.int .u8 23,.int .u8 11,.int .u8 54,.int .u8 26,.int .u8 40,.int .u8 15,.int .u8 34,.int .u8 20,.int .u8 31,.int .u8 10,.int .u8 25,.int .u8 14,.int .u8 19,.int .u8 9,.int .u8 13,.int .u8 8,.int .u8 7,.int .u8 6]
def jaw:List V:=[.int .u64 1,.int .u64 10,.int .u64 100,.int .u64 1000,.int .u64 10000,.int .u64 100000,.int .u64 1000000,.int .u64 10000000,.int .u64 100000000,.int .u64 1000000000,.int .u64 10000000000,.int .u64 100000000000,.int .u64 1000000000000,.int .u64 10000000000000,.int .u64 100000000000000,.int .u64 1000000000000000,.int .u64 10000000000000000,.int .u64 100000000000000000,.int .u64 1000000000000000000,.int .u64 10000000000000000000]
end Am.Sigs
