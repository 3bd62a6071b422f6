/- Texts of this proof, merged: BoardI, Brd, Brd2, Brd3, Brd4, Brd5, Brd6, Brd7, Brd8. -/
import Derived.Test.YtaaffebnajjfhaaGreatDoorH25
import Derived.Test.YtaaffebnajjfhaaGreatDoorH18
import Derived.Test.YtaaffebnajjfhaaGreatDoorH11
import Derived.Laws.OwnMore
namespace Go.Proofs.YtaaffebnajjfhaaGreatDoor.T
set_option linter.unusedVariables false
set_option linter.unusedSimpArgs false
set_option linter.unusedSectionVars false
open Go.RowKit
theorem chanWords_le {n ring:Nat} (hn:n≤8) (hr:ring≤64):chanWords n ring≤39648:=by
 unfold chanWords
 have h1:n*(n-1)≤8*7:=Nat.mul_le_mul hn (by omega)
 have h2:4+11*ring≤708:=by omega
 exact Nat.le_trans (Nat.mul_le_mul h1 h2) (by decide)
theorem Good.first (n ring most:Nat) (h2:2≤n) (h8:n≤8) (hr1:1≤ring) (hr2:ring≤64):Good (Bd.new n ring most) []:=by
 have hw:=chanWords_le h8 hr2
 have hep:∀c,(Bd.new n ring most).ep c=0:=fun c=>by
  unfold Bd.ep Bd.new Gates.newGt
  simp only [List.getD_eq_getElem?_getD,List.getElem?_replicate]
  split<;>rfl
 have hup:∀c,(Bd.new n ring most).upb c=true:=fun c=>by
  unfold Bd.upb Bd.new Gates.newGt
  simp only [List.getD_eq_getElem?_getD,List.getElem?_replicate]
  split<;>rfl
 refine ⟨fun _=> [],fun _=>none,⟨h2,h8, ?_,hr1,hr2,Gates.newGt_ok ⟨by show (1:Int)≤(n:Int);omega,by show (n:Int)≤8;omega⟩,rfl,fun _=>by simp [Bd.new],fun _ _ y hy=>(by cases hy),fun i j hi hj hij=> ?_,fun c p hc hp hpc _=> ?_,fun c hc=>rfl,fun c hc x hx=>(by cases hx)⟩,⟨rfl,fun _ _=>rfl,fun c hc q=>(by cases q)⟩⟩
 ·show chanWords n ring≤65536
  omega
 ·refine ⟨Gho.none_, ?_, ?_⟩
  ·rw [hep,hep,hup,hup]
   exact Jn.first hr1 hr2 (newGiv_new _ _ _ _ _) (newTak_new _ _ _ _ _) _ _ rfl rfl rfl rfl
  ·rw [hep,hep,hup,hup]
   exact Dg.first (R:=ring) (newGiv_new _ _ _ _ _) (newTak_new _ _ _ _ _)
 ·have hb1:=chanBase_le (n:=n) (ring:=ring) hc hp (Ne.symm hpc)
  have hb2:=chanBase_le (n:=n) (ring:=ring) hp hc hpc
  refine ⟨newGiv_ok hr1 hr2 hp (by omega) hb1 (by show chanWords n ring≤65536;omega),rfl,rfl,rfl,newTak_ok hr1 hr2 hp (by omega) hb2 (by show chanWords n ring≤65536;omega),rfl,rfl,rfl,fun x hx=> ?_⟩
  have hx:x∈List.replicate 64 (0:Int):=hx
  have:=(List.mem_replicate.1 hx).2
  show x≤((0:Nat):Int)
  omega
def lawStep (s:Bd × List Nat) (x:Ev):Bd × List Nat:=if x.kind=8 then s else ((s.1.do_ x).1,linksOf s.1 s.2 x)
def lawRun (s:Bd × List Nat) (l:List Ev):Bd × List Nat:=l.foldl lawStep s
theorem Bd.do_now (b:Bd) (x:Ev):(b.do_ x).1.now=b.now+1∧(b.do_ x).1.n=b.n∧(b.do_ x).1.ring=b.ring∧(b.do_ x).1.most=b.most:=by
 have hs:∀(b:Bd) (c:Nat),(b.step c).1.now=b.now∧(b.step c).1.n=b.n∧(b.step c).1.ring=b.ring∧(b.step c).1.most=b.most:=by
  intro b c
  unfold Bd.step
  simp only
  cases hr:(b.cor c).runs with
  | none=>exact ⟨rfl,rfl,rfl,rfl⟩
  | some r=>cases r<;>simp only<;>split<;>exact ⟨rfl,rfl,rfl,rfl⟩
 have hc:∀(b:Bd) (c p:Nat),(b.call x c p).1.now=b.now∧(b.call x c p).1.n=b.n∧(b.call x c p).1.ring=b.ring∧(b.call x c p).1.most=b.most:=by
  intro b c p
  unfold Bd.call
  simp only
  split
  ·split<;>exact ⟨rfl,rfl,rfl,rfl⟩
  ·split
   ·split<;>exact ⟨rfl,rfl,rfl,rfl⟩
   ·split<;>exact ⟨rfl,rfl,rfl,rfl⟩
 unfold Bd.do_ Bd.act
 simp only
 repeat' split
 all_goals first|exact ⟨rfl,rfl,rfl,rfl⟩|exact hs _ _|exact hc _ _ _
theorem Good.run (l:List Ev):∀(s:Bd × List Nat),Good s.1 s.2→s.1.now+l.length<40000→Good (lawRun s l).1 (lawRun s l).2:=by
 induction l with
 | nil=>intro s h _;exact h
 | cons x l ih=>
  intro s h hN
  simp only [List.length_cons] at hN
  show Good (lawRun (lawStep s x) l).1 (lawRun (lawStep s x) l).2
  refine ih _ ?_ ?_
  ·unfold lawStep
   split
   ·exact h
   ·exact h.do_ (by omega) x
  ·unfold lawStep
   split
   ·omega
   ·show (s.1.do_ x).1.now+l.length<40000
    rw [(s.1.do_now x).1];omega
theorem prefix_law {b:Bd} {Ls:List Nat} (h:Good b Ls) {i j:Nat} (hi:i<b.n) (hj:j<b.n) (hij:i≠j) (L:Nat):beginning (seenOf i j L (b.diary.zip Ls)).1 (seenOf i j L (b.diary.zip Ls)).2.1 (seenOf i j L (b.diary.zip Ls)).2.2∧Ls.length=b.diary.length:=by
 obtain ⟨P,C,hI,hD⟩:=h
 exact ⟨hI.beginning hD hi hj hij L,hD.len⟩
def RowZ (w:World) (e:TypeId) (size:Nat) (v:Value) (n:Nat) (xs:List Value):Prop:=w.ownsRow 0 e size v n xs
namespace RowZ
variable {w w':World} {e:TypeId} {size n:Nat} {v:Value} {xs:List Value}
theorem move (h:RowZ w e size v n xs) (hm:∀k,v.ownBlock=some k→w'.heap[k]? = w.heap[k]?):RowZ w' e size v n xs:=by
 refine ⟨h.1, ?_⟩
 rcases h.2 with h2|⟨g,cap,cur,rfl,h0,hg,r⟩
 ·exact .inl h2
 ·exact .inr ⟨g,cap,cur,rfl,h0,(hm g (by simp [Value.ownBlock])).trans hg,r⟩
theorem lt (h:RowZ w e size v n xs) (k:Nat) (hk:v.ownBlock=some k):k<w.heap.size:=(World.ownsRow.lt h k hk).2
theorem keep {F:Nat→Prop} (h:RowZ w e size v n xs) (hk:Keep F w w') (hF:∀k,v.ownBlock=some k→ ¬F k):RowZ w' e size v n xs:=
 h.move fun k q=>hk.block k (h.lt k q) (hF k q)
theorem typed (h:RowZ w e size v n xs) (k:Nat) (hk:v.ownBlock=some k):∃cur,Blk w k e cur:=by
 rcases h.2 with ⟨rfl,_⟩|⟨g,cap,cur,rfl,h0,hg,r⟩
 ·simp [Value.ownBlock] at hk
 ·have:g=k:=by simpa [Value.ownBlock] using hk
  subst this
  exact ⟨cur.toList,by unfold Blk;simpa using hg⟩
theorem ne (h:RowZ w e size v n xs) {b:Nat} {ty:TypeId} {cs:List Value} (hb:Blk w b ty cs) (ht:e≠ty):v.ownBlock≠some b:=fun q=>by
 obtain ⟨cur,hc⟩:=h.typed b q
 exact ht (hc.same hb).1
theorem far (h:RowZ w e size v n xs) {b:Nat} {ty:TypeId} {cs:List Value} (hb:Blk w b ty cs) (ht:e≠ty) (j:Nat) (u:Value):RowZ (w.setCell ⟨b,j,none⟩ u) e size v n xs:=
 h.move fun k hk=>Below.heap_setCell _ _ _ _ (fun q=>h.ne hb ht (by rw [hk,q]))
theorem slice (h:RowZ w e size v n xs):∃A c,v= .slice A n c:=by
 rcases h.2 with ⟨rfl,rfl⟩|⟨g,cap,cur,rfl,r⟩
 ·exact ⟨none,0,rfl⟩
 ·exact ⟨_,_,rfl⟩
theorem cells (h:RowZ w e size v n xs) (hn:0<n):∃g c,v= .slice (some ⟨g,0,none⟩) n c∧n≤c∧(∃cur,Blk w g e cur)∧∀j,j<n*size→w.cell? ⟨g,j,none⟩=xs[j]? ∧ w.frozen? ⟨g,j,none⟩=false:=by
 rcases h.2 with ⟨rfl,rfl⟩|⟨g,cap,cur,rfl,h0,hg,hc,hm,hl,ht⟩
 ·omega
 ·have hb:Blk w g e cur.toList:=by unfold Blk;simpa using hg
  refine ⟨g,cap,rfl,hc,⟨_,hb⟩,fun j hj=>⟨?_,hb.free _⟩⟩
  rw [hb.cell, ←ht,List.getElem?_take,if_pos hj]
theorem set {g c:Nat} (h:RowZ w e size (.slice (some ⟨g,0,none⟩) n c) n xs) (j:Nat) (hj:j<n*size) (u:Value):RowZ (w.setCell ⟨g,j,none⟩ u) e size (.slice (some ⟨g,0,none⟩) n c) n (xs.set j u):=by
 refine ⟨by rw [List.length_set,h.1], ?_⟩
 rcases h.2 with ⟨he,_⟩|⟨g',cap,cur,he,h0,hg,hc,hx,hl,ht⟩
 ·cases he
 ·injection he with h1 h2 h3
  injection h1 with h1
  injection h1 with h1 h4
  subst h1 h3
  have hb:Blk w g e cur.toList:=by unfold Blk;simpa using hg
  have hb2:=hb.set j u
  refine .inr ⟨g,c,(cur.toList.set j u).toArray,rfl,h0,hb2,hc,hx,by simp;exact hl, ?_⟩
  rw [←ht,List.take_set]
theorem append {P:Program} (w:World) (t ty e:TypeId) (i:TypeInfo) (z:Value) (size bytes:Nat) (ht:P.underlying t=some (.slice e)) (hi:P.info? e=some i) (hz:i.zero=some z)
  (hsize:i.size=size) (hby:i.bytes=bytes) (hzs:z.cells.size=size) (hsz:0<size) (v:Value) (n:Nat) (xs:List Value) (h:RowZ w e size v n xs)
  (a:Addr) (m c:Nat) (news:List Value) (hl:news.length=m*size) (hnews:∀j u,news[j]? = some u→w.cell? (a.add j)=some u) (h1:∀u∈news,u.oneCell'=true)
  (h63:n+m≤maxLen) (hbytes:(n+m)*bytes≤140737488355328):
  ∃v' w',(Builtin.append_ #[t,t] ty #[v, .slice (some a) m c]).run P w= .ok v' w'∧RowZ w' e size v' (n+m) (xs++news)∧w.grownBy w' v.ownBlock∧(v'.ownBlock=v.ownBlock∨v'.ownBlock=some w.heap.size):=by
 obtain ⟨v',w',hr,ho',hg,_,hat⟩:=run_append_own_at (P:=P) w 0 t ty e i z size bytes ht hi hz hsize hby hzs hsz v n xs h a m c news hl hnews h1 h63 hbytes (Nat.zero_le _)
 exact ⟨v',w',hr,ho',hg,hat⟩
end RowZ
theorem app_run_list {P:Program} {ops:Array Oper} {rest:List Oper} {o:Oper} {a:Act} {Q':Exit→Act→World→Prop} {W w':World} {v u v':Value} (hgd:o.guard=none) (s x:Operand) (t ty:TypeId)
  (ho:o.op= .call { callee:= .builtin .append,args:= #[s,x],argTypes:= #[t,t] }) (hty:o.type=ty) (hs:a.eval s=v) (hx:a.eval x=u) (hr:(Builtin.append_ #[t,t] ty #[v,u]).run P W= .ok v' w') (k:wpList P ops Q' rest (a.put o.dst v') w'):
  wpList P ops Q' (o :: rest) a W:=by
 refine wpList_plain hgd fun K hK=> ?_
 unfold Oper.wp execOp
 simp only [ho,hty,resolve,invoke,builtin,Sem.run_bind,Sem.run_pure,Result.andThen_ok,List.map_toArray,List.map_cons,List.map_nil,hs,hx,hr]
 exact hK _ _ k
theorem app_run_step {P:Program} {ops:Array Oper} {o:Oper} {a:Act} {Q':Exit→Act→World→Prop} {Kc:Act→World→Prop} {E:Prop} {W w':World} {v u v':Value} (hw:Region.wanted o (yielded ops a.tmps)=true) (s x:Operand) (t ty:TypeId)
  (ho:o.op= .call { callee:= .builtin .append,args:= #[s,x],argTypes:= #[t,t] }) (hty:o.type=ty) (hs:a.eval s=v) (hx:a.eval x=u) (hr:(Builtin.append_ #[t,t] ty #[v,u]).run P W= .ok v' w') (k:Kc (a.put o.dst v') w'):
  if Region.wanted o (yielded ops a.tmps)=true then Oper.wp P o a W Kc Q' else E:=by
 rw [if_pos hw]
 unfold Oper.wp execOp
 simp only [ho,hty,resolve,invoke,builtin,Sem.run_bind,Sem.run_pure,Result.andThen_ok,List.map_toArray,List.map_cons,List.map_nil,hs,hx,hr]
 exact k
def deb:List Int:= [0,1,56,2,57,49,28,3,61,58,42,50,38,29,17,4,62,47,59,36,45,43,51,22,53,39,33,30,24,18,12,5,63,55,48,27,60,41,37,16,46,35,44,21,52,32,23,11,54,26,40,15,34,20,31,10,25,14,19,9,13,8,7,6]
structure Glob (w:World):Prop where
 ahead:Ahead w
 tab:∀j,j<64→w.cell? ⟨1,j,none⟩=some (.int .u8 (deb.getD j 0))
theorem Glob.keep {w w':World} {F:Nat→Prop} (h:Glob w) (hk:Keep F w w') (h0: ¬F 0) (h1: ¬F 1):Glob w':=by
 refine ⟨h.ahead.keep hk h0,fun j hj=> ?_⟩
 have h2:=h.tab j hj
 rw [hk.cell (p:=⟨1,j,none⟩) (World.block_lt_of_cell? w _ h2) h1]
 exact h2
theorem Glob.fresh {w w':World} (h:Glob w) (hb:Below w.heap.size w w'):Glob w':=h.keep (Keep.ofFresh hb (B:=0) (F:=fun _=>False)) (fun q=>q) (fun q=>q)
inductive Tag where
 | soc
 | giv (c p:Nat)
 | tak (c p:Nat)
 | brd
 | none_
structure Lay where
 S:SocL
 bd:Nat
 cg:Nat
 ccap:Nat
 vs:Nat→Value
 vg:Nat→Value
 vt:Nat→Value
 gb:Nat→Nat→Nat
 vf:Nat→Nat→Value
 vo:Nat→Nat→Value
 vl:Nat→Nat→Value
 tk:Nat→Nat→Nat
 tt:Nat→Nat→Nat
 vtl:Nat→Nat→Value
 vd:Value
 dl:Nat→Value
def ptr (k:Nat):Value:= .pointer (some ⟨k,0,none⟩)
def runV (Y:Lay) (c:Nat):Option Run→Value
 | none=> .nilIface
 | some (.giv p)=> .iface 109 (ptr (Y.gb c p))
 | some (.tak p)=> .iface 111 (ptr (Y.tk c p))
def entCells (x:Ent) (l:Value):List Value:=
 [.int .i64 x.core, .int .i64 x.peer, .int .i64 x.kind, .int .i64 x.bgn, .int .i64 x.fin, .int .i64 x.err,l, .int .i64 x.handle]
def diaCells (dl:Nat→Value) (d:List Ent):List Value:=(List.range d.length).flatMap fun k=>entCells (d.getD k Ent.none_) (dl k)
def givPtrs (Y:Lay) (n c:Nat):List Value:=(List.range n).map fun p=>if p=c then .pointer none else ptr (Y.gb c p)
def takPtrs (Y:Lay) (n c:Nat):List Value:=(List.range n).map fun p=>if p=c then .pointer none else ptr (Y.tk c p)
def BrdF (Y:Lay) (b:Bd) (k:Nat):Prop:=
 k=Y.bd∨k=Y.cg∨(∃c,c<b.n∧b.upb c=true∧((Y.vg c).ownBlock=some k∨(Y.vt c).ownBlock=some k))∨Y.vd.ownBlock=some k∨∃i,i<b.diary.length∧(Y.dl i).ownBlock=some k
def BdF (Y:Lay) (b:Bd) (k:Nat):Prop:=
 SocAll Y.S b.n Y.vs k∨(∃c p,c<b.n∧p<b.n∧p≠c∧b.upb c=true∧(GivF (Y.gb c p) (Y.vf c p) (Y.vo c p) (Y.vl c p) k∨TakF (Y.tk c p) (Y.tt c p) (Y.vtl c p) k))∨BrdF Y b k
structure Owns (Y:Lay) (b:Bd) (tag:Nat→Tag):Prop where
 soc:∀k,SocAll Y.S b.n Y.vs k→tag k= .soc
 giv:∀c p,c<b.n→p<b.n→p≠c→b.upb c=true→∀k,GivF (Y.gb c p) (Y.vf c p) (Y.vo c p) (Y.vl c p) k→tag k= .giv c p
 tak:∀c p,c<b.n→p<b.n→p≠c→b.upb c=true→∀k,TakF (Y.tk c p) (Y.tt c p) (Y.vtl c p) k→tag k= .tak c p
 brd:∀k,BrdF Y b k→tag k= .brd
 glb:tag 0= .none_∧tag 1= .none_
structure BdAt (w:World) (Y:Lay) (b:Bd):Prop where
 board:Blk w Y.bd 65 [.int .i64 b.n, .int .i64 b.ring, .int .i64 b.most,ptr Y.S.soc, .slice (some ⟨Y.cg,0,none⟩) b.n Y.ccap,Y.vd, .int .i64 b.now]
 cores:∃cs,Blk w Y.cg 71 cs∧∀c,c<b.n→cs[c*4]? = some (if b.upb c=true then Y.vg c else .slice none 0 0)∧cs[c*4+1]? = some (if b.upb c=true then Y.vt c else .slice none 0 0)∧cs[c*4+2]? = some (runV Y c (b.cor c).runs)∧cs[c*4+3]? = some (.int .i64 (b.cor c).entry)
 givs:∀c,c<b.n→b.upb c=true→RowZ w 109 1 (Y.vg c) b.n (givPtrs Y b.n c)
 taks:∀c,c<b.n→b.upb c=true→RowZ w 111 1 (Y.vt c) b.n (takPtrs Y b.n c)
 giv:∀c p,c<b.n→p<b.n→p≠c→b.upb c=true→GivAt w (Y.gb c p) (Y.vf c p) (Y.vo c p) (Y.vl c p) ((b.cor c).giv p)
 tak:∀c p,c<b.n→p<b.n→p≠c→b.upb c=true→TakAt w (Y.tk c p) (Y.tt c p) (Y.vtl c p) ((b.cor c).tak p)
 soc:SocAt w Y.S b.n (chanWords b.n b.ring) b.most Y.vs b.sc.m b.sc.q b.sc.g
 diary:RowZ w 82 8 Y.vd b.diary.length (diaCells Y.dl b.diary)
 loads:∀i,i<b.diary.length→RowI w (Y.dl i) (b.diary.getD i Ent.none_).load
 own:∃tag,Owns Y b tag
 glob:Glob w
def BdTo (w:World) (Y:Lay) (b b':Bd) (w':World):Prop:=
 ∃Y',(Y'.bd=Y.bd∧Y'.cg=Y.cg)∧BdAt w' Y' b'∧Keep (BdF Y b) w w'∧∀k,BdF Y' b' k→BdF Y b k∨w.heap.size≤k
def BdSame (w:World) (Y:Lay) (b b':Bd) (w':World):Prop:=
 ∃Y',(Y'.bd=Y.bd∧Y'.cg=Y.cg)∧(Y'.gb=Y.gb∧Y'.tk=Y.tk)∧BdAt w' Y' b'∧Keep (BdF Y b) w w'∧∀k,BdF Y' b' k→BdF Y b k∨w.heap.size≤k
section
variable {w w' w'':World} {Y:Lay} {b b' b'':Bd}
theorem BdSame.to_ (h:BdSame w Y b b' w'):BdTo w Y b b' w':=by
 obtain ⟨Y',h0,_,h1,h2,h3⟩:=h
 exact ⟨Y',h0,h1,h2,h3⟩
theorem BdAt.lt (h:BdAt w Y b) (k:Nat) (hk:BdF Y b k):k<w.heap.size:=by
 rcases hk with hk|⟨c,p,hc,hp,hpc,hu,hk|hk⟩|hk|hk|⟨c,hc,hu,hk|hk⟩|hk|⟨i,hi,hk⟩
 ·exact h.soc.lt k hk
 ·exact (h.giv c p hc hp hpc hu).lt k hk
 ·exact (h.tak c p hc hp hpc hu).lt k hk
 ·rw [hk];exact h.board.lt
 ·obtain ⟨cs,hcs,_⟩:=h.cores;rw [hk];exact hcs.lt
 ·exact (h.givs c hc hu).lt k hk
 ·exact (h.taks c hc hu).lt k hk
 ·exact h.diary.lt k hk
 ·exact Row.lt (h.loads i hi) k hk
theorem BdAt.keep {F:Nat→Prop} (h:BdAt w Y b) (hk:Keep F w w') (hF:∀k,BdF Y b k→ ¬F k) (h0: ¬F 0) (h1: ¬F 1):BdAt w' Y b:=by
 have hB:∀k,BrdF Y b k→ ¬F k:=fun k q=>hF k (.inr (.inr q))
 obtain ⟨cs,hcs,hcc⟩:=h.cores
 exact ⟨h.board.keep hk (hB _ (.inl rfl)),⟨cs,hcs.keep hk (hB _ (.inr (.inl rfl))),hcc⟩,
  fun c hc hu=>(h.givs c hc hu).keep hk (fun k q=>hB k (.inr (.inr (.inl ⟨c,hc,hu, .inl q⟩)))),
  fun c hc hu=>(h.taks c hc hu).keep hk (fun k q=>hB k (.inr (.inr (.inl ⟨c,hc,hu, .inr q⟩)))),
  fun c p hc hp hpc hu=>(h.giv c p hc hp hpc hu).keep hk (fun k q=>hF k (.inr (.inl ⟨c,p,hc,hp,hpc,hu, .inl q⟩))),
  fun c p hc hp hpc hu=>(h.tak c p hc hp hpc hu).keep hk (fun k q=>hF k (.inr (.inl ⟨c,p,hc,hp,hpc,hu, .inr q⟩))),
  h.soc.keepAll hk (fun k q=>hF k (.inl q)),h.diary.keep hk (fun k q=>hB k (.inr (.inr (.inr (.inl q))))),
  fun i hi=>Row.keep (h.loads i hi) hk (fun k q=>hB k (.inr (.inr (.inr (.inr ⟨i,hi,q⟩))))),h.own,h.glob.keep hk h0 h1⟩
theorem BdAt.fresh (h:BdAt w Y b) (hb:Below w.heap.size w w'):BdAt w' Y b:=h.keep (Keep.ofFresh hb (B:=0) (F:=fun _=>False)) (fun _ _ q=>q) (fun q=>q) (fun q=>q)
theorem BdTo.refl (h:BdAt w Y b):BdTo w Y b b w:=⟨Y,⟨rfl,rfl⟩,h,Keep.refl _ _,fun k hk=> .inl hk⟩
theorem BdTo.from_ {w0:World} (hb:Below w0.heap.size w0 w) (h:BdTo w Y b b' w'):BdTo w0 Y b b' w':=by
 obtain ⟨Y',h0,h1,h2,h3⟩:=h
 exact ⟨Y',h0,h1,(Keep.ofFresh hb (B:=0)).trans' h2,fun k hk=>(h3 k hk).imp id (fun e=>Nat.le_trans hb.size e)⟩
theorem BdTo.fresh (h:BdTo w Y b b' w') (hb:Below w'.heap.size w' w''):BdTo w Y b b' w'':=by
 obtain ⟨Y',h0,h1,h2,h3⟩:=h
 exact ⟨Y',h0,h1.fresh hb,h2.trans' (Keep.ofFresh hb (B:=0)),h3⟩
theorem BdTo.trans (h:BdTo w Y b b' w') (g:∀Y',(Y'.bd=Y.bd∧Y'.cg=Y.cg)→BdAt w' Y' b'→BdTo w' Y' b' b'' w''):BdTo w Y b b'' w'':=by
 obtain ⟨Y',h0,h1,h2,h3⟩:=h
 obtain ⟨Y2,g0,g1,g2,g3⟩:=g Y' h0 h1
 refine ⟨Y2,⟨g0.1.trans h0.1,g0.2.trans h0.2⟩,g1,h2.trans g2 (fun k hk q=> ?_),fun k hk=> ?_⟩
 ·rcases h3 k q with e|e
  ·exact e
  ·omega
 ·rcases g3 k hk with e|e
  ·exact h3 k e
  ·exact .inr (Nat.le_trans h2.size e)
theorem Owns.of {tag:Nat→Tag} (o:Owns Y b tag) {k:Nat} (h:BdF Y b k):tag k≠ .none_:=by
 rcases h with h|⟨c,p,hc,hp,hpc,hu,h|h⟩|h
 ·rw [o.soc k h];simp
 ·rw [o.giv c p hc hp hpc hu k h];simp
 ·rw [o.tak c p hc hp hpc hu k h];simp
 ·rw [o.brd k h];simp
theorem BdTo.glob (h:BdTo w Y b b' w'):Glob w':=by
 obtain ⟨Y',h0,h1,h2,h3⟩:=h
 exact h1.glob
open Classical in
theorem BdAt.gmovedS (h:BdAt w Y b) {c p:Nat} (hc:c<b.n) (hp:p<b.n) (hpc:p≠c) (hu:b.upb c=true) {s':Sc} {g':Giv} {vs':Nat→Value} {vf' vo' vl':Value} (hg:s'.g=b.sc.g)
  (hs:SocAt w' Y.S b.n (chanWords b.n b.ring) b.most vs' s'.m s'.q s'.g) (hgv:GivAt w' (Y.gb c p) vf' vo' vl' g') (hm:Moved w w' (SocAll Y.S b.n Y.vs) (SocAll Y.S b.n vs') (GivF (Y.gb c p) (Y.vf c p) (Y.vo c p) (Y.vl c p)) (GivF (Y.gb c p) vf' vo' vl')):
  BdSame w Y b ((b.setSc s').setCor c { b.cor c with giv:=upd (b.cor c).giv p g' }) w':=by
 obtain ⟨tag,o⟩:=h.own
 have hnF:∀k,BdF Y b k→tag k≠ .soc→tag k≠ .giv c p→ ¬(SocAll Y.S b.n Y.vs k∨GivF (Y.gb c p) (Y.vf c p) (Y.vo c p) (Y.vl c p) k):=fun k _ h1 h2 q=>q.elim (fun q=>h1 (o.soc k q)) (fun q=>h2 (o.giv c p hc hp hpc hu k q))
 have hupb:∀i,((b.setSc s').setCor c { b.cor c with giv:=upd (b.cor c).giv p g' }).upb i=b.upb i:=fun i=>by unfold Bd.upb;show (!(s'.g.held.getD i false))=_;rw [hg]
 have hcor:∀i,i≠c→((b.setSc s').setCor c { b.cor c with giv:=upd (b.cor c).giv p g' }).cor i=b.cor i:=fun i hi=>upd_other _ _ _ _ hi
 have hcc:((b.setSc s').setCor c { b.cor c with giv:=upd (b.cor c).giv p g' }).cor c= { b.cor c with giv:=upd (b.cor c).giv p g' }:=upd_same _ _ _
 have hB:∀k,BrdF Y b k→ ¬(SocAll Y.S b.n Y.vs k∨GivF (Y.gb c p) (Y.vf c p) (Y.vo c p) (Y.vl c p) k):=fun k q=>hnF k (.inr (.inr q)) (by rw [o.brd k q];simp) (by rw [o.brd k q];simp)
 have hvf:∀i q,(i≠c∨q≠p)→upd Y.vf c (upd (Y.vf c) p vf') i q=Y.vf i q:=by
  intro i q hne
  by_cases ei:i=c
  ·subst ei;rw [upd_same,upd_other _ _ _ _ (by omega)]
  ·rw [upd_other _ _ _ _ ei]
 have hvo:∀i q,(i≠c∨q≠p)→upd Y.vo c (upd (Y.vo c) p vo') i q=Y.vo i q:=by
  intro i q hne
  by_cases ei:i=c
  ·subst ei;rw [upd_same,upd_other _ _ _ _ (by omega)]
  ·rw [upd_other _ _ _ _ ei]
 have hvl:∀i q,(i≠c∨q≠p)→upd Y.vl c (upd (Y.vl c) p vl') i q=Y.vl i q:=by
  intro i q hne
  by_cases ei:i=c
  ·subst ei;rw [upd_same,upd_other _ _ _ _ (by omega)]
  ·rw [upd_other _ _ _ _ ei]
 have hvfc:upd Y.vf c (upd (Y.vf c) p vf') c p=vf':=by rw [upd_same,upd_same]
 have hvoc:upd Y.vo c (upd (Y.vo c) p vo') c p=vo':=by rw [upd_same,upd_same]
 have hvlc:upd Y.vl c (upd (Y.vl c) p vl') c p=vl':=by rw [upd_same,upd_same]
 obtain ⟨cs,hcs,hcc2⟩:=h.cores
 refine ⟨{ Y with vs:=vs',vf:=upd Y.vf c (upd (Y.vf c) p vf'),vo:=upd Y.vo c (upd (Y.vo c) p vo'),vl:=upd Y.vl c (upd (Y.vl c) p vl') },⟨rfl,rfl⟩,⟨rfl,rfl⟩,⟨?_,⟨cs, ?_,fun i hi=> ?_⟩,fun i hi hui=> ?_,fun i hi hui=> ?_,fun i q hi hq hqi hui=> ?_,fun i q hi hq hqi hui=> ?_,hs, ?_,fun i hi=> ?_, ?_, ?_⟩, ?_,fun k hk=> ?_⟩
 ·exact h.board.keep hm.keep (hB _ (.inl rfl))
 ·exact hcs.keep hm.keep (hB _ (.inr (.inl rfl)))
 ·have:=hcc2 i hi
  rw [hupb]
  by_cases ei:i=c
  ·subst ei
   rw [hcc]
   refine ⟨this.1,this.2.1, ?_,this.2.2.2⟩
   rw [this.2.2.1]
   show some (runV Y i (b.cor i).runs)=some (runV _ i (b.cor i).runs)
   cases (b.cor i).runs with
   | none=>rfl
   | some r=>cases r<;>rfl
  ·rw [hcor i ei]
   refine ⟨this.1,this.2.1, ?_,this.2.2.2⟩
   rw [this.2.2.1]
   cases (b.cor i).runs with
   | none=>rfl
   | some r=>cases r<;>rfl
 ·rw [hupb] at hui
  exact (h.givs i hi hui).keep hm.keep (fun k q=>hB k (.inr (.inr (.inl ⟨i,hi,hui, .inl q⟩))))
 ·rw [hupb] at hui
  exact (h.taks i hi hui).keep hm.keep (fun k q=>hB k (.inr (.inr (.inl ⟨i,hi,hui, .inr q⟩))))
 ·rw [hupb] at hui
  by_cases e:i=c∧q=p
  ·obtain ⟨rfl,rfl⟩:=e
   simp only [hvfc,hvoc,hvlc,hcc,upd_same]
   exact hgv
  ·have hne:i≠c∨q≠p:=by omega
   simp only [hvf i q hne,hvo i q hne,hvl i q hne]
   have e2:(((b.setSc s').setCor c { b.cor c with giv:=upd (b.cor c).giv p g' }).cor i).giv q=(b.cor i).giv q:=by
    by_cases ei:i=c
    ·subst ei;rw [hcc];exact upd_other _ _ _ _ (by omega)
    ·rw [hcor i ei]
   rw [e2]
   refine (h.giv i q hi hq hqi hui).keep hm.keep (fun k hk=>hnF k (.inr (.inl ⟨i,q,hi,hq,hqi,hui, .inl hk⟩)) ?_ ?_)
   ·rw [o.giv i q hi hq hqi hui k hk];simp
   ·rw [o.giv i q hi hq hqi hui k hk];simp;omega
 ·rw [hupb] at hui
  have e2:(((b.setSc s').setCor c { b.cor c with giv:=upd (b.cor c).giv p g' }).cor i).tak q=(b.cor i).tak q:=by
   by_cases ei:i=c
   ·subst ei;rw [hcc]
   ·rw [hcor i ei]
  rw [e2]
  refine (h.tak i q hi hq hqi hui).keep hm.keep (fun k hk=>hnF k (.inr (.inl ⟨i,q,hi,hq,hqi,hui, .inr hk⟩)) ?_ ?_)
  ·rw [o.tak i q hi hq hqi hui k hk];simp
  ·rw [o.tak i q hi hq hqi hui k hk];simp
 ·exact h.diary.keep hm.keep (fun k q=>hB k (.inr (.inr (.inr (.inl q)))))
 ·exact Row.keep (h.loads i hi) hm.keep (fun k q=>hB k (.inr (.inr (.inr (.inr ⟨i,hi,q⟩)))))
 ·refine ⟨fun k=>if k<w.heap.size then tag k else if SocAll Y.S b.n vs' k then .soc else .giv c p,fun k hk=> ?_,fun i q hi hq hqi hui k hk=> ?_,fun i q hi hq hqi hui k hk=> ?_,fun k hk=> ?_, ?_⟩
  ·have hk:SocAll Y.S b.n vs' k:=hk
   rcases hm.oa k hk with e|e
   ·rw [if_pos (h.lt k (.inl e)),o.soc k e]
   ·rw [if_neg (by omega),if_pos hk]
  ·rw [hupb] at hui
   by_cases e:i=c∧q=p
   ·obtain ⟨rfl,rfl⟩:=e
    simp only [hvfc,hvoc,hvlc] at hk
    rcases hm.ob k hk with e|e
    ·rw [if_pos (h.lt k (.inr (.inl ⟨i,q,hi,hq,hqi,hui, .inl e⟩))),o.giv i q hi hq hqi hui k e]
    ·rw [if_neg (by omega),if_neg (fun r=>hm.dis k r hk)]
   ·have hne:i≠c∨q≠p:=by omega
    simp only [hvf i q hne,hvo i q hne,hvl i q hne] at hk
    rw [if_pos (h.lt k (.inr (.inl ⟨i,q,hi,hq,hqi,hui, .inl hk⟩))),o.giv i q hi hq hqi hui k hk]
  ·rw [hupb] at hui
   rw [if_pos (h.lt k (.inr (.inl ⟨i,q,hi,hq,hqi,hui, .inr hk⟩))),o.tak i q hi hq hqi hui k hk]
  ·have hk2:BrdF Y b k:=by
    rcases hk with hk|hk|⟨i,hi,hui,hk⟩|hk|hk
    ·exact .inl hk
    ·exact .inr (.inl hk)
    ·rw [hupb] at hui;exact .inr (.inr (.inl ⟨i,hi,hui,hk⟩))
    ·exact .inr (.inr (.inr (.inl hk)))
    ·exact .inr (.inr (.inr (.inr hk)))
   rw [if_pos (h.lt k (.inr (.inr hk2))),o.brd k hk2]
  ·have h2:w.cell? ⟨0,5,none⟩=some (.int .i64 0):=h.glob.ahead.1
   have h3:=h.glob.tab 0 (by decide)
   have h4:=World.block_lt_of_cell? w _ h2
   have h5:=World.block_lt_of_cell? w _ h3
   simp only at h4 h5
   rw [if_pos h4,if_pos h5]
   exact o.glb
 ·refine h.glob.keep hm.keep (fun q=> ?_) (fun q=> ?_)
  ·rcases q with q|q
   ·have:=o.soc 0 q;rw [o.glb.1] at this;cases this
   ·have:=o.giv c p hc hp hpc hu 0 q;rw [o.glb.1] at this;cases this
  ·rcases q with q|q
   ·have:=o.soc 1 q;rw [o.glb.2] at this;cases this
   ·have:=o.giv c p hc hp hpc hu 1 q;rw [o.glb.2] at this;cases this
 ·exact hm.keep.mono (fun k _ q=>q.elim (fun q=> .inl q) (fun q=> .inr (.inl ⟨c,p,hc,hp,hpc,hu, .inl q⟩)))
 ·rcases hk with hk|⟨i,q,hi,hq,hqi,hui,hk⟩|hk
  ·exact (hm.oa k hk).imp .inl id
  ·rw [hupb] at hui
   by_cases e:i=c∧q=p
   ·obtain ⟨rfl,rfl⟩:=e
    simp only [hvfc,hvoc,hvlc] at hk
    rcases hk with hk|hk
    ·exact (hm.ob k hk).imp (fun q'=> .inr (.inl ⟨i,q,hi,hq,hqi,hui, .inl q'⟩)) id
    ·exact .inl (.inr (.inl ⟨i,q,hi,hq,hqi,hui, .inr hk⟩))
   ·have hne:i≠c∨q≠p:=by omega
    simp only [hvf i q hne,hvo i q hne,hvl i q hne] at hk
    exact .inl (.inr (.inl ⟨i,q,hi,hq,hqi,hui,hk⟩))
  ·refine .inl (.inr (.inr ?_))
   rcases hk with hk|hk|⟨i,hi,hui,hk⟩|hk|hk
   ·exact .inl hk
   ·exact .inr (.inl hk)
   ·rw [hupb] at hui;exact .inr (.inr (.inl ⟨i,hi,hui,hk⟩))
   ·exact .inr (.inr (.inr (.inl hk)))
   ·exact .inr (.inr (.inr (.inr hk)))
theorem BdAt.gmoved (h:BdAt w Y b) {c p:Nat} (hc:c<b.n) (hp:p<b.n) (hpc:p≠c) (hu:b.upb c=true) {s':Sc} {g':Giv} {vs':Nat→Value} {vf' vo' vl':Value} (hg:s'.g=b.sc.g)
  (hs:SocAt w' Y.S b.n (chanWords b.n b.ring) b.most vs' s'.m s'.q s'.g) (hgv:GivAt w' (Y.gb c p) vf' vo' vl' g') (hm:Moved w w' (SocAll Y.S b.n Y.vs) (SocAll Y.S b.n vs') (GivF (Y.gb c p) (Y.vf c p) (Y.vo c p) (Y.vl c p)) (GivF (Y.gb c p) vf' vo' vl')):
  BdTo w Y b ((b.setSc s').setCor c { b.cor c with giv:=upd (b.cor c).giv p g' }) w':=(h.gmovedS hc hp hpc hu hg hs hgv hm).to_
open Classical in
theorem BdAt.tmovedS (h:BdAt w Y b) {c p:Nat} (hc:c<b.n) (hp:p<b.n) (hpc:p≠c) (hu:b.upb c=true) {s':Sc} {g':Tak} {vs':Nat→Value} {vtl':Value} (hg:s'.g=b.sc.g)
  (hs:SocAt w' Y.S b.n (chanWords b.n b.ring) b.most vs' s'.m s'.q s'.g) (hgv:TakAt w' (Y.tk c p) (Y.tt c p) vtl' g') (hm:Moved w w' (SocAll Y.S b.n Y.vs) (SocAll Y.S b.n vs') (TakF (Y.tk c p) (Y.tt c p) (Y.vtl c p)) (TakF (Y.tk c p) (Y.tt c p) vtl')):
  BdSame w Y b ((b.setSc s').setCor c { b.cor c with tak:=upd (b.cor c).tak p g' }) w':=by
 obtain ⟨tag,o⟩:=h.own
 have hnF:∀k,BdF Y b k→tag k≠ .soc→tag k≠ .tak c p→ ¬(SocAll Y.S b.n Y.vs k∨TakF (Y.tk c p) (Y.tt c p) (Y.vtl c p) k):=fun k _ h1 h2 q=>q.elim (fun q=>h1 (o.soc k q)) (fun q=>h2 (o.tak c p hc hp hpc hu k q))
 have hupb:∀i,((b.setSc s').setCor c { b.cor c with tak:=upd (b.cor c).tak p g' }).upb i=b.upb i:=fun i=>by unfold Bd.upb;show (!(s'.g.held.getD i false))=_;rw [hg]
 have hcor:∀i,i≠c→((b.setSc s').setCor c { b.cor c with tak:=upd (b.cor c).tak p g' }).cor i=b.cor i:=fun i hi=>upd_other _ _ _ _ hi
 have hcc:((b.setSc s').setCor c { b.cor c with tak:=upd (b.cor c).tak p g' }).cor c= { b.cor c with tak:=upd (b.cor c).tak p g' }:=upd_same _ _ _
 have hB:∀k,BrdF Y b k→ ¬(SocAll Y.S b.n Y.vs k∨TakF (Y.tk c p) (Y.tt c p) (Y.vtl c p) k):=fun k q=>hnF k (.inr (.inr q)) (by rw [o.brd k q];simp) (by rw [o.brd k q];simp)
 have hvt:∀i q,(i≠c∨q≠p)→upd Y.vtl c (upd (Y.vtl c) p vtl') i q=Y.vtl i q:=by
  intro i q hne
  by_cases ei:i=c
  ·subst ei;rw [upd_same,upd_other _ _ _ _ (by omega)]
  ·rw [upd_other _ _ _ _ ei]
 have hvtc:upd Y.vtl c (upd (Y.vtl c) p vtl') c p=vtl':=by rw [upd_same,upd_same]
 obtain ⟨cs,hcs,hcc2⟩:=h.cores
 refine ⟨{ Y with vs:=vs',vtl:=upd Y.vtl c (upd (Y.vtl c) p vtl') },⟨rfl,rfl⟩,⟨rfl,rfl⟩,⟨?_,⟨cs, ?_,fun i hi=> ?_⟩,fun i hi hui=> ?_,fun i hi hui=> ?_,fun i q hi hq hqi hui=> ?_,fun i q hi hq hqi hui=> ?_,hs, ?_,fun i hi=> ?_, ?_, ?_⟩, ?_,fun k hk=> ?_⟩
 ·exact h.board.keep hm.keep (hB _ (.inl rfl))
 ·exact hcs.keep hm.keep (hB _ (.inr (.inl rfl)))
 ·have:=hcc2 i hi
  rw [hupb]
  by_cases ei:i=c
  ·subst ei
   rw [hcc]
   refine ⟨this.1,this.2.1, ?_,this.2.2.2⟩
   rw [this.2.2.1]
   show some (runV Y i (b.cor i).runs)=some (runV _ i (b.cor i).runs)
   cases (b.cor i).runs with
   | none=>rfl
   | some r=>cases r<;>rfl
  ·rw [hcor i ei]
   refine ⟨this.1,this.2.1, ?_,this.2.2.2⟩
   rw [this.2.2.1]
   cases (b.cor i).runs with
   | none=>rfl
   | some r=>cases r<;>rfl
 ·rw [hupb] at hui
  exact (h.givs i hi hui).keep hm.keep (fun k q=>hB k (.inr (.inr (.inl ⟨i,hi,hui, .inl q⟩))))
 ·rw [hupb] at hui
  exact (h.taks i hi hui).keep hm.keep (fun k q=>hB k (.inr (.inr (.inl ⟨i,hi,hui, .inr q⟩))))
 ·rw [hupb] at hui
  have e2:(((b.setSc s').setCor c { b.cor c with tak:=upd (b.cor c).tak p g' }).cor i).giv q=(b.cor i).giv q:=by
   by_cases ei:i=c
   ·subst ei;rw [hcc]
   ·rw [hcor i ei]
  rw [e2]
  refine (h.giv i q hi hq hqi hui).keep hm.keep (fun k hk=>hnF k (.inr (.inl ⟨i,q,hi,hq,hqi,hui, .inl hk⟩)) ?_ ?_)
  ·rw [o.giv i q hi hq hqi hui k hk];simp
  ·rw [o.giv i q hi hq hqi hui k hk];simp
 ·rw [hupb] at hui
  by_cases e:i=c∧q=p
  ·obtain ⟨rfl,rfl⟩:=e
   simp only [hvtc,hcc,upd_same]
   exact hgv
  ·have hne:i≠c∨q≠p:=by omega
   simp only [hvt i q hne]
   have e2:(((b.setSc s').setCor c { b.cor c with tak:=upd (b.cor c).tak p g' }).cor i).tak q=(b.cor i).tak q:=by
    by_cases ei:i=c
    ·subst ei;rw [hcc];exact upd_other _ _ _ _ (by omega)
    ·rw [hcor i ei]
   rw [e2]
   refine (h.tak i q hi hq hqi hui).keep hm.keep (fun k hk=>hnF k (.inr (.inl ⟨i,q,hi,hq,hqi,hui, .inr hk⟩)) ?_ ?_)
   ·rw [o.tak i q hi hq hqi hui k hk];simp
   ·rw [o.tak i q hi hq hqi hui k hk];simp;omega
 ·exact h.diary.keep hm.keep (fun k q=>hB k (.inr (.inr (.inr (.inl q)))))
 ·exact Row.keep (h.loads i hi) hm.keep (fun k q=>hB k (.inr (.inr (.inr (.inr ⟨i,hi,q⟩)))))
 ·refine ⟨fun k=>if k<w.heap.size then tag k else if SocAll Y.S b.n vs' k then .soc else .tak c p,fun k hk=> ?_,fun i q hi hq hqi hui k hk=> ?_,fun i q hi hq hqi hui k hk=> ?_,fun k hk=> ?_, ?_⟩
  ·have hk:SocAll Y.S b.n vs' k:=hk
   rcases hm.oa k hk with e|e
   ·rw [if_pos (h.lt k (.inl e)),o.soc k e]
   ·rw [if_neg (by omega),if_pos hk]
  ·rw [hupb] at hui
   rw [if_pos (h.lt k (.inr (.inl ⟨i,q,hi,hq,hqi,hui, .inl hk⟩))),o.giv i q hi hq hqi hui k hk]
  ·rw [hupb] at hui
   by_cases e:i=c∧q=p
   ·obtain ⟨rfl,rfl⟩:=e
    simp only [hvtc] at hk
    rcases hm.ob k hk with e|e
    ·rw [if_pos (h.lt k (.inr (.inl ⟨i,q,hi,hq,hqi,hui, .inr e⟩))),o.tak i q hi hq hqi hui k e]
    ·rw [if_neg (by omega),if_neg (fun r=>hm.dis k r hk)]
   ·have hne:i≠c∨q≠p:=by omega
    simp only [hvt i q hne] at hk
    rw [if_pos (h.lt k (.inr (.inl ⟨i,q,hi,hq,hqi,hui, .inr hk⟩))),o.tak i q hi hq hqi hui k hk]
  ·have hk2:BrdF Y b k:=by
    rcases hk with hk|hk|⟨i,hi,hui,hk⟩|hk|hk
    ·exact .inl hk
    ·exact .inr (.inl hk)
    ·rw [hupb] at hui;exact .inr (.inr (.inl ⟨i,hi,hui,hk⟩))
    ·exact .inr (.inr (.inr (.inl hk)))
    ·exact .inr (.inr (.inr (.inr hk)))
   rw [if_pos (h.lt k (.inr (.inr hk2))),o.brd k hk2]
  ·have h2:w.cell? ⟨0,5,none⟩=some (.int .i64 0):=h.glob.ahead.1
   have h3:=h.glob.tab 0 (by decide)
   have h4:=World.block_lt_of_cell? w _ h2
   have h5:=World.block_lt_of_cell? w _ h3
   simp only at h4 h5
   rw [if_pos h4,if_pos h5]
   exact o.glb
 ·refine h.glob.keep hm.keep (fun q=> ?_) (fun q=> ?_)
  ·rcases q with q|q
   ·have:=o.soc 0 q;rw [o.glb.1] at this;cases this
   ·have:=o.tak c p hc hp hpc hu 0 q;rw [o.glb.1] at this;cases this
  ·rcases q with q|q
   ·have:=o.soc 1 q;rw [o.glb.2] at this;cases this
   ·have:=o.tak c p hc hp hpc hu 1 q;rw [o.glb.2] at this;cases this
 ·exact hm.keep.mono (fun k _ q=>q.elim (fun q=> .inl q) (fun q=> .inr (.inl ⟨c,p,hc,hp,hpc,hu, .inr q⟩)))
 ·rcases hk with hk|⟨i,q,hi,hq,hqi,hui,hk⟩|hk
  ·exact (hm.oa k hk).imp .inl id
  ·rw [hupb] at hui
   by_cases e:i=c∧q=p
   ·obtain ⟨rfl,rfl⟩:=e
    simp only [hvtc] at hk
    rcases hk with hk|hk
    ·exact .inl (.inr (.inl ⟨i,q,hi,hq,hqi,hui, .inl hk⟩))
    ·exact (hm.ob k hk).imp (fun q'=> .inr (.inl ⟨i,q,hi,hq,hqi,hui, .inr q'⟩)) id
   ·have hne:i≠c∨q≠p:=by omega
    simp only [hvt i q hne] at hk
    exact .inl (.inr (.inl ⟨i,q,hi,hq,hqi,hui,hk⟩))
  ·refine .inl (.inr (.inr ?_))
   rcases hk with hk|hk|⟨i,hi,hui,hk⟩|hk|hk
   ·exact .inl hk
   ·exact .inr (.inl hk)
   ·rw [hupb] at hui;exact .inr (.inr (.inl ⟨i,hi,hui,hk⟩))
   ·exact .inr (.inr (.inr (.inl hk)))
   ·exact .inr (.inr (.inr (.inr hk)))
theorem BdAt.tmoved (h:BdAt w Y b) {c p:Nat} (hc:c<b.n) (hp:p<b.n) (hpc:p≠c) (hu:b.upb c=true) {s':Sc} {g':Tak} {vs':Nat→Value} {vtl':Value} (hg:s'.g=b.sc.g)
  (hs:SocAt w' Y.S b.n (chanWords b.n b.ring) b.most vs' s'.m s'.q s'.g) (hgv:TakAt w' (Y.tk c p) (Y.tt c p) vtl' g') (hm:Moved w w' (SocAll Y.S b.n Y.vs) (SocAll Y.S b.n vs') (TakF (Y.tk c p) (Y.tt c p) (Y.vtl c p)) (TakF (Y.tk c p) (Y.tt c p) vtl')):
  BdTo w Y b ((b.setSc s').setCor c { b.cor c with tak:=upd (b.cor c).tak p g' }) w':=(h.tmovedS hc hp hpc hu hg hs hgv hm).to_
end
section
variable {α : Type}
theorem flat_len (f:Nat→List α) (s:Nat) (hs:∀k,(f k).length=s) (n:Nat):((List.range n).flatMap f).length=n*s:=by
 induction n with
 | zero=>simp
 | succ n ih=>rw [List.range_succ,List.flatMap_append,List.length_append,ih];simp [hs,Nat.succ_mul]
theorem flat_get (f:Nat→List α) (s:Nat) (hs:∀k,(f k).length=s) {n q r:Nat} (hq:q<n) (hr:r<s):((List.range n).flatMap f)[q*s+r]? = (f q)[r]? := by
 induction n with
 | zero=>omega
 | succ n ih=>
  rw [List.range_succ,List.flatMap_append]
  have hl:=flat_len f s hs n
  by_cases h:q<n
  ·have:=Nat.mul_le_mul_right s (show q+1≤n by omega)
   rw [Nat.succ_mul] at this
   rw [List.getElem?_append_left (by omega)]
   exact ih h
  ·have e:q=n:=by omega
   subst e
   rw [List.getElem?_append_right (by omega),hl]
   simp
theorem flat_set (f f':Nat→List α) (s:Nat) (hs:∀k,(f k).length=s) (hs':∀k,(f' k).length=s) {n q r:Nat} (hq:q<n) (hr:r<s) (v: α) (h1:f' q=(f q).set r v) (h2:∀k,k≠q→f' k=f k):((List.range n).flatMap f).set (q*s+r) v=(List.range n).flatMap f':=by
 apply List.ext_getElem?
 intro j
 have hl:=flat_len f s hs n
 have hl':=flat_len f' s hs' n
 by_cases hj:j<n*s
 ·have hs0:0<s:=by omega
  have hd:j=(j / s)*s+j%s:=by rw [Nat.mul_comm];exact (Nat.div_add_mod j s).symm
  have hq2:j / s<n:=Nat.div_lt_of_lt_mul (by rw [Nat.mul_comm];exact hj)
  have hr2:j%s<s:=Nat.mod_lt _ hs0
  generalize j / s=q2 at *
  generalize j%s=r2 at *
  subst hd
  rw [flat_get f' s hs' hq2 hr2,List.getElem?_set]
  by_cases e:q2=q
  ·subst e
   rw [h1,List.getElem?_set,hs]
   by_cases e2:r=r2
   ·subst e2
    rw [if_pos rfl,if_pos (by rw [hl];exact hj),if_pos rfl,if_pos hr]
   ·rw [if_neg (by omega),if_neg e2]
    exact flat_get f s hs hq2 hr2
  ·rw [h2 q2 e]
   have: ¬q*s+r=q2*s+r2:=by
    intro he
    rcases Nat.lt_or_gt_of_ne e with h|h
    ·have:=Nat.mul_le_mul_right s (show q2+1≤q by omega)
     rw [Nat.succ_mul] at this
     omega
    ·have:=Nat.mul_le_mul_right s (show q+1≤q2 by omega)
     rw [Nat.succ_mul] at this
     omega
   rw [if_neg this]
   exact flat_get f s hs hq2 hr2
 ·rw [List.getElem?_eq_none (by rw [List.length_set];omega),List.getElem?_eq_none (by omega)]
theorem flat_congr (f f':Nat→List α) (n:Nat) (h:∀k,k<n→f k=f' k):(List.range n).flatMap f=(List.range n).flatMap f':=by
 induction n with
 | zero=>rfl
 | succ n ih=>
  rw [List.range_succ,List.flatMap_append,List.flatMap_append,ih (fun k hk=>h k (by omega))]
  simp [h n (by omega)]
end
theorem diaCells_get (dl:Nat→Value) (d:List Ent) {q r:Nat} (hq:q<d.length) (hr:r<8):(diaCells dl d)[q*8+r]? = (entCells (d.getD q Ent.none_) (dl q))[r]? := flat_get (fun k=>entCells (d.getD k Ent.none_) (dl k)) 8 (fun _=>rfl) hq hr
theorem getD_set_ent (d:List Ent) (k j:Nat) (y:Ent) (h:k<d.length):(d.set k y).getD j Ent.none_=if j=k then y else d.getD j Ent.none_:=by
 simp only [List.getD_eq_getElem?_getD,List.getElem?_set]
 by_cases e:k=j
 ·subst e;simp [h]
 ·rw [if_neg e,if_neg (Ne.symm e)]
theorem diaCells_set (dl dl':Nat→Value) (d:List Ent) {q r:Nat} (hq:q<d.length) (hr:r<8) (v:Value) (y:Ent) (h1:entCells y (dl' q)=(entCells (d.getD q Ent.none_) (dl q)).set r v) (h2:∀k,k≠q→dl' k=dl k):(diaCells dl d).set (q*8+r) v=diaCells dl' (d.set q y):=by
 unfold diaCells
 rw [List.length_set]
 refine flat_set (fun k=>entCells (d.getD k Ent.none_) (dl k)) (fun k=>entCells ((d.set q y).getD k Ent.none_) (dl' k)) 8 (fun _=>rfl) (fun _=>rfl) hq hr v ?_ (fun k hk=> ?_)
 ·simp only [getD_set_ent d q q y hq,if_true];exact h1
 ·simp only [getD_set_ent d q k y hq,if_neg hk,h2 k hk]
theorem diaCells_push (dl:Nat→Value) (d:List Ent) (y:Ent) (l:Value):diaCells dl d++entCells y l=diaCells (upd dl d.length l) (d ++ [y]):=by
 unfold diaCells
 rw [List.length_append,List.length_cons,List.length_nil,List.range_succ,List.flatMap_append]
 congr 1
 ·refine flat_congr _ _ _ (fun k hk=> ?_)
  rw [upd_other _ _ _ _ (by omega),getD_push _ _ _ _ hk]
 ·simp [upd_same,List.getD]
section
variable {w w':World} {Y:Lay} {b b':Bd}
def BrdW (Y:Lay) (k:Nat):Prop:=k=Y.bd∨k=Y.cg∨Y.vd.ownBlock=some k
def BdN (B:Nat) (w:World) (Y:Lay) (b b':Bd) (w':World):Prop:=
 ∃Y',(Y'.bd=Y.bd∧Y'.cg=Y.cg)∧BdAt w' Y' b'∧Keep (BdF Y b) w w'∧∀k,BdF Y' b' k→BdF Y b k∨B≤k
open Classical in
theorem BdAt.brdN {B:Nat} (hB:2≤B) (h:BdAt w Y b) {vd':Value} {dl':Nat→Value} (hn:b'.n=b.n) (hr:b'.ring=b.ring) (hm:b'.most=b.most) (hsc:b'.sc=b.sc) (hg:∀c,(b'.cor c).giv=(b.cor c).giv∧(b'.cor c).tak=(b.cor c).tak) (hk:Keep (BrdW Y) w w')
  (hboard:Blk w' Y.bd 65 [.int .i64 b.n, .int .i64 b.ring, .int .i64 b.most,ptr Y.S.soc, .slice (some ⟨Y.cg,0,none⟩) b.n Y.ccap,vd', .int .i64 b'.now])
  (hcores:∃cs,Blk w' Y.cg 71 cs∧∀c,c<b.n→cs[c*4]? = some (if b.upb c=true then Y.vg c else .slice none 0 0)∧cs[c*4+1]? = some (if b.upb c=true then Y.vt c else .slice none 0 0)∧cs[c*4+2]? = some (runV Y c (b'.cor c).runs)∧cs[c*4+3]? = some (.int .i64 (b'.cor c).entry))
  (hd:RowZ w' 82 8 vd' b'.diary.length (diaCells dl' b'.diary)) (hl:∀i,i<b'.diary.length→RowI w' (dl' i) (b'.diary.getD i Ent.none_).load)
  (ho:∀k,(vd'.ownBlock=some k∨∃i,i<b'.diary.length∧(dl' i).ownBlock=some k)→BrdF Y b k∨(B≤k∧ ¬BdF Y b k)):BdN B w Y b b' w':=by
 obtain ⟨tag,o⟩:=h.own
 have hupb:∀i,b'.upb i=b.upb i:=fun i=>by unfold Bd.upb;rw [hsc]
 have hbrd:∀k,BrdW Y k→BrdF Y b k:=fun k q=>by
  rcases q with q|q|q
  ·exact .inl q
  ·exact .inr (.inl q)
  ·exact .inr (.inr (.inr (.inl q)))
 have hnF:∀k,BdF Y b k→tag k≠ .brd→ ¬BrdW Y k:=fun k _ h1 q=>h1 (o.brd k (hbrd k q))
 obtain ⟨cs0,hcs0,_⟩:=h.cores
 have hne:∀ {k:Nat} {ty:TypeId} {cs:List Value},Blk w k ty cs→ty≠65→ty≠71→ty≠82→ ¬BrdW Y k:=by
  intro k ty cs hb t1 t2 t3 q
  rcases q with q|q|q
  ·subst q;exact t1 (hb.same h.board).1
  ·subst q;exact t2 (hb.same hcs0).1
  ·exact h.diary.ne hb (Ne.symm t3) q
 have hF':∀k,BrdF { Y with vd:=vd',dl:=dl' } b' k→BrdF Y b k∨(B≤k∧ ¬BdF Y b k):=by
  intro k q
  rcases q with q|q|⟨i,hi,hui,q⟩|q|q
  ·exact .inl (.inl q)
  ·exact .inl (.inr (.inl q))
  ·rw [hn] at hi;rw [hupb] at hui;exact .inl (.inr (.inr (.inl ⟨i,hi,hui,q⟩)))
  ·exact ho k (.inl q)
  ·exact ho k (.inr q)
 refine ⟨{ Y with vd:=vd',dl:=dl' },⟨rfl,rfl⟩,⟨by rw [hn,hr,hm];exact hboard, ?_,fun i hi hui=> ?_,fun i hi hui=> ?_,fun i q hi hq hqi hui=> ?_,fun i q hi hq hqi hui=> ?_, ?_,hd,hl, ?_, ?_⟩, ?_,fun k hk=> ?_⟩
 ·obtain ⟨cs,hcs,hcc⟩:=hcores
  refine ⟨cs,hcs,fun c hc=> ?_⟩
  rw [hn] at hc
  rw [hupb]
  obtain ⟨q1,q2,q3,q4⟩:=hcc c hc
  refine ⟨q1,q2, ?_,q4⟩
  rw [q3]
  cases (b'.cor c).runs with
  | none=>rfl
  | some r=>cases r<;>rfl
 ·rw [hn] at hi ⊢;rw [hupb] at hui
  refine (h.givs i hi hui).keep hk (fun k q=> ?_)
  obtain ⟨cur,hcur⟩:=(h.givs i hi hui).typed k q
  exact hne hcur (by decide) (by decide) (by decide)
 ·rw [hn] at hi ⊢;rw [hupb] at hui
  refine (h.taks i hi hui).keep hk (fun k q=> ?_)
  obtain ⟨cur,hcur⟩:=(h.taks i hi hui).typed k q
  exact hne hcur (by decide) (by decide) (by decide)
 ·rw [hn] at hi hq;rw [hupb] at hui
  rw [(hg i).1]
  exact (h.giv i q hi hq hqi hui).keep hk (fun k r=>hnF k (.inr (.inl ⟨i,q,hi,hq,hqi,hui, .inl r⟩)) (by rw [o.giv i q hi hq hqi hui k r];simp))
 ·rw [hn] at hi hq;rw [hupb] at hui
  rw [(hg i).2]
  exact (h.tak i q hi hq hqi hui).keep hk (fun k r=>hnF k (.inr (.inl ⟨i,q,hi,hq,hqi,hui, .inr r⟩)) (by rw [o.tak i q hi hq hqi hui k r];simp))
 ·rw [hn,hr,hm,hsc]
  exact h.soc.keepAll hk (fun k r=>hnF k (.inl r) (by rw [o.soc k r];simp))
 ·refine ⟨fun k=>if BdF Y b k∨k<2 then tag k else .brd,fun k hk=> ?_,fun i q hi hq hqi hui k hk=> ?_,fun i q hi hq hqi hui k hk=> ?_,fun k hk=> ?_, ?_⟩
  ·rw [hn] at hk
   rw [if_pos (.inl (.inl hk)),o.soc k hk]
  ·rw [hn] at hi hq;rw [hupb] at hui
   rw [if_pos (.inl (.inr (.inl ⟨i,q,hi,hq,hqi,hui, .inl hk⟩))),o.giv i q hi hq hqi hui k hk]
  ·rw [hn] at hi hq;rw [hupb] at hui
   rw [if_pos (.inl (.inr (.inl ⟨i,q,hi,hq,hqi,hui, .inr hk⟩))),o.tak i q hi hq hqi hui k hk]
  ·rcases hF' k hk with q|q
   ·rw [if_pos (.inl (.inr (.inr q))),o.brd k q]
   ·rw [if_neg (fun r=>r.elim q.2 (fun r=>by omega))]
  ·rw [if_pos (.inr (by omega)),if_pos (.inr (by omega))];exact o.glb
 ·refine h.glob.keep hk (fun q=> ?_) (fun q=> ?_)
  ·have:=o.brd 0 (hbrd 0 q);rw [o.glb.1] at this;cases this
  ·have:=o.brd 1 (hbrd 1 q);rw [o.glb.2] at this;cases this
 ·exact hk.mono (fun k _ q=> .inr (.inr (hbrd k q)))
 ·rcases hk with hk|⟨i,q,hi,hq,hqi,hui,hk⟩|hk
  ·rw [hn] at hk;exact .inl (.inl hk)
  ·rw [hn] at hi hq;rw [hupb] at hui
   exact .inl (.inr (.inl ⟨i,q,hi,hq,hqi,hui,hk⟩))
  ·exact (hF' k hk).imp (fun q=> .inr (.inr q)) (fun q=>q.1)
theorem BdAt.brdTo (h:BdAt w Y b) {vd':Value} {dl':Nat→Value} (hn:b'.n=b.n) (hr:b'.ring=b.ring) (hm:b'.most=b.most) (hsc:b'.sc=b.sc) (hg:∀c,(b'.cor c).giv=(b.cor c).giv∧(b'.cor c).tak=(b.cor c).tak) (hk:Keep (BrdW Y) w w')
  (hboard:Blk w' Y.bd 65 [.int .i64 b.n, .int .i64 b.ring, .int .i64 b.most,ptr Y.S.soc, .slice (some ⟨Y.cg,0,none⟩) b.n Y.ccap,vd', .int .i64 b'.now])
  (hcores:∃cs,Blk w' Y.cg 71 cs∧∀c,c<b.n→cs[c*4]? = some (if b.upb c=true then Y.vg c else .slice none 0 0)∧cs[c*4+1]? = some (if b.upb c=true then Y.vt c else .slice none 0 0)∧cs[c*4+2]? = some (runV Y c (b'.cor c).runs)∧cs[c*4+3]? = some (.int .i64 (b'.cor c).entry))
  (hd:RowZ w' 82 8 vd' b'.diary.length (diaCells dl' b'.diary)) (hl:∀i,i<b'.diary.length→RowI w' (dl' i) (b'.diary.getD i Ent.none_).load)
  (ho:∀k,(vd'.ownBlock=some k∨∃i,i<b'.diary.length∧(dl' i).ownBlock=some k)→BrdF Y b k∨w.heap.size≤k):BdTo w Y b b' w':=by
 have hgl1:1<w.heap.size:=by
  have h3:=h.glob.tab 0 (by decide)
  exact World.block_lt_of_cell? w _ h3
 exact h.brdN hgl1 hn hr hm hsc hg hk hboard hcores hd hl (fun k q=>(ho k q).imp id (fun e=>⟨e,fun r=>by have:=h.lt k r;omega⟩))
theorem BdAt.own_loads (h:BdAt w Y b) (k:Nat) (hk:Y.vd.ownBlock=some k∨∃i,i<b.diary.length∧(Y.dl i).ownBlock=some k):BrdF Y b k:=by
 rcases hk with hk|hk
 ·exact .inr (.inr (.inr (.inl hk)))
 ·exact .inr (.inr (.inr (.inr hk)))
theorem BdAt.ne_cg (h:BdAt w Y b):Y.bd≠Y.cg:=by
 obtain ⟨cs,hcs,_⟩:=h.cores
 exact h.board.ne hcs (by decide)
theorem BdAt.setNow (h:BdAt w Y b):BdTo w Y b { b with now:=b.now+1 } (w.setCell ⟨Y.bd,6,none⟩ (.int .i64 ((b.now+1:Nat):Int))):=by
 obtain ⟨cs,hcs,hcc⟩:=h.cores
 exact h.brdTo (vd':=Y.vd) (dl':=Y.dl) (b':= { b with now:=b.now+1 }) rfl rfl rfl rfl (fun _=>⟨rfl,rfl⟩) (Keep.setCell (p:=⟨Y.bd,6,none⟩) (Keep.refl _ w) (fun _=> .inl rfl) _) (h.board.set 6 _) ⟨cs,hcs.far (p:=⟨Y.bd,6,none⟩) (Ne.symm h.ne_cg) _,hcc⟩
  (h.diary.far h.board (by decide) 6 _) (fun i hi=>Row.far (h.loads i hi) h.board (by decide) 6 _) (fun k hk=> .inl (h.own_loads k hk))
theorem BdAt.setFin (h:BdAt w Y b) {k:Nat} (hk:k<b.diary.length) (e:Int) {dg dc:Nat} (hv:Y.vd= .slice (some ⟨dg,0,none⟩) b.diary.length dc):
  BdTo w Y b { b with diary:=b.diary.set k { b.diary.getD k Ent.none_ with fin:=b.now,err:=e } } ((w.setCell ⟨dg,k*8+4,none⟩ (.int .i64 b.now)).setCell ⟨dg,k*8+5,none⟩ (.int .i64 e)):=by
 obtain ⟨cs,hcs,hcc⟩:=h.cores
 have hdr:=h.diary
 rw [hv] at hdr
 obtain ⟨cur,hcur⟩:=hdr.typed dg rfl
 have h1:=hdr.set (k*8+4) (by omega) (.int .i64 b.now)
 rw [diaCells_set Y.dl Y.dl b.diary hk (by omega) (.int .i64 b.now) { b.diary.getD k Ent.none_ with fin:=b.now } rfl (fun _ _=>rfl)] at h1
 have h2:=h1.set (k*8+5) (by omega) (.int .i64 e)
 rw [diaCells_set Y.dl Y.dl _ (by rw [List.length_set];exact hk) (by omega) (.int .i64 e) { b.diary.getD k Ent.none_ with fin:=b.now,err:=e } (by rw [getD_set_ent _ _ _ _ hk,if_pos rfl];rfl) (fun _ _=>rfl),List.set_set] at h2
 have hcur1:=hcur.set (k*8+4) (.int .i64 b.now)
 refine h.brdTo (vd':=Y.vd) (dl':=Y.dl) (b':= { b with diary:=b.diary.set k { b.diary.getD k Ent.none_ with fin:=b.now,err:=e } }) rfl rfl rfl rfl (fun _=>⟨rfl,rfl⟩) ((Keep.setCell (p:=⟨dg,k*8+4,none⟩) (Keep.refl _ w) (fun _=> .inr (.inr (by rw [hv];rfl))) _).setCell (p:=⟨dg,k*8+5,none⟩) (fun _=> .inr (.inr (by rw [hv];rfl))) _) ?_ ?_ ?_ (fun i hi=> ?_) (fun k hk=> ?_)
 ·exact (h.board.far (p:=⟨dg,k*8+4,none⟩) (h.board.ne hcur (by decide)) _).far (p:=⟨dg,k*8+5,none⟩) (h.board.ne hcur (by decide)) _
 ·exact ⟨cs,(hcs.far (p:=⟨dg,k*8+4,none⟩) (hcs.ne hcur (by decide)) _).far (p:=⟨dg,k*8+5,none⟩) (hcs.ne hcur (by decide)) _,hcc⟩
 ·rw [hv]
  simpa using h2
 ·have hi:i<b.diary.length:=by simpa using hi
  have hload:((b.diary.set k { b.diary.getD k Ent.none_ with fin:=b.now,err:=e }).getD i Ent.none_).load=(b.diary.getD i Ent.none_).load:=by
   rw [getD_set_ent _ _ _ _ hk]
   split
   ·rename_i q;rw [q]
   ·rfl
  show RowI _ _ ((b.diary.set k { b.diary.getD k Ent.none_ with fin:=b.now,err:=e }).getD i Ent.none_).load
  rw [hload]
  exact Row.far (Row.far (h.loads i hi) hcur (by decide) _ _) hcur1 (by decide) _ _
 ·exact .inl (h.own_loads k (by simpa using hk))
theorem BdAt.setGot {wx:World} (h0:BdAt w Y b) (hb:Below w.heap.size w wx) {k:Nat} (hk:k<b.diary.length) (v:Value) (xs:List Int) (hx:RowI wx v xs) (hvo:∀q,v.ownBlock=some q→w.heap.size≤q) (hd:Int) {dg dc:Nat} (hv:Y.vd= .slice (some ⟨dg,0,none⟩) b.diary.length dc):
  BdTo w Y b { b with diary:=b.diary.set k { b.diary.getD k Ent.none_ with load:=xs,handle:=hd } } ((wx.setCell ⟨dg,k*8+6,none⟩ v).setCell ⟨dg,k*8+7,none⟩ (.int .i64 hd)):=by
 have h:=h0.fresh hb
 obtain ⟨cs,hcs,hcc⟩:=h.cores
 have hdr:=h.diary
 rw [hv] at hdr
 obtain ⟨cur,hcur⟩:=hdr.typed dg rfl
 have h1:=hdr.set (k*8+6) (by omega) v
 rw [diaCells_set Y.dl (upd Y.dl k v) b.diary hk (by omega) v { b.diary.getD k Ent.none_ with load:=xs } (by rw [upd_same];rfl) (fun q hq=>upd_other _ _ _ _ hq)] at h1
 have h2:=h1.set (k*8+7) (by omega) (.int .i64 hd)
 rw [diaCells_set (upd Y.dl k v) (upd Y.dl k v) _ (by rw [List.length_set];exact hk) (by omega) (.int .i64 hd) { b.diary.getD k Ent.none_ with load:=xs,handle:=hd } (by rw [getD_set_ent _ _ _ _ hk,if_pos rfl];rfl) (fun _ _=>rfl),List.set_set] at h2
 have hcur1:=hcur.set (k*8+6) v
 refine h0.brdTo (vd':=Y.vd) (dl':=upd Y.dl k v) (b':= { b with diary:=b.diary.set k { b.diary.getD k Ent.none_ with load:=xs,handle:=hd } }) rfl rfl rfl rfl (fun _=>⟨rfl,rfl⟩) (((Keep.ofFresh hb (B:=0)).setCell (p:=⟨dg,k*8+6,none⟩) (fun _=> .inr (.inr (by rw [hv];rfl))) _).setCell (p:=⟨dg,k*8+7,none⟩) (fun _=> .inr (.inr (by rw [hv];rfl))) _) ?_ ?_ ?_ (fun i hi=> ?_) (fun q hq=> ?_)
 ·exact (h.board.far (p:=⟨dg,k*8+6,none⟩) (h.board.ne hcur (by decide)) _).far (p:=⟨dg,k*8+7,none⟩) (h.board.ne hcur (by decide)) _
 ·exact ⟨cs,(hcs.far (p:=⟨dg,k*8+6,none⟩) (hcs.ne hcur (by decide)) _).far (p:=⟨dg,k*8+7,none⟩) (hcs.ne hcur (by decide)) _,hcc⟩
 ·rw [hv]
  simpa using h2
 ·have hi:i<b.diary.length:=by simpa using hi
  show RowI _ (upd Y.dl k v i) ((b.diary.set k { b.diary.getD k Ent.none_ with load:=xs,handle:=hd }).getD i Ent.none_).load
  rw [getD_set_ent _ _ _ _ hk]
  by_cases e:i=k
  ·subst e
   rw [upd_same,if_pos rfl]
   exact Row.far (Row.far hx hcur (by decide) _ _) hcur1 (by decide) _ _
  ·rw [upd_other _ _ _ _ e,if_neg e]
   exact Row.far (Row.far (h.loads i hi) hcur (by decide) _ _) hcur1 (by decide) _ _
 ·rcases hq with hq|⟨i,hi,hq⟩
  ·exact .inl (h0.own_loads q (.inl hq))
  ·have hi:i<b.diary.length:=by simpa using hi
   by_cases e:i=k
   ·subst e;rw [upd_same] at hq;exact .inr (hvo q hq)
   ·rw [upd_other _ _ _ _ e] at hq;exact .inl (h0.own_loads q (.inr ⟨i,hi,hq⟩))
theorem BdAt.setIdle (h:BdAt w Y b) {c:Nat} (hc:c<b.n):BdTo w Y b (b.setCor c { b.cor c with runs:=none }) (w.setCell ⟨Y.cg,c*4+2,none⟩ .nilIface):=by
 obtain ⟨cs,hcs,hcc⟩:=h.cores
 have hcr:∀i,((b.setCor c { b.cor c with runs:=none }).cor i).giv=(b.cor i).giv∧((b.setCor c { b.cor c with runs:=none }).cor i).tak=(b.cor i).tak:=fun i=>by
  by_cases e:i=c
  ·subst e
   rw [show (b.setCor i { b.cor i with runs:=none }).cor i= { b.cor i with runs:=none } from upd_same _ _ _]
   exact ⟨rfl,rfl⟩
  ·rw [show (b.setCor c { b.cor c with runs:=none }).cor i=b.cor i from upd_other _ _ _ _ e]
   exact ⟨rfl,rfl⟩
 refine h.brdTo (vd':=Y.vd) (dl':=Y.dl) (b':=b.setCor c { b.cor c with runs:=none }) rfl rfl rfl rfl hcr (Keep.setCell (p:=⟨Y.cg,c*4+2,none⟩) (Keep.refl _ w) (fun _=> .inr (.inl rfl)) _) (h.board.far (p:=⟨Y.cg,c*4+2,none⟩) h.ne_cg _) ⟨_,hcs.set _ _,fun i hi=> ?_⟩
  (h.diary.far hcs (by decide) _ _) (fun i hi=>Row.far (h.loads i hi) hcs (by decide) _ _) (fun k hk=> .inl (h.own_loads k hk))
 have hx:=hcc i hi
 have hlen:c*4+2<cs.length:=by
  have:=(hcc c hc).2.2.1
  exact (List.getElem?_eq_some_iff.1 this).1
 by_cases e:i=c
 ·subst e
  rw [show (b.setCor i { b.cor i with runs:=none }).cor i= { b.cor i with runs:=none } from upd_same _ _ _]
  refine ⟨by rw [List.getElem?_set_ne (by omega)];exact hx.1,by rw [List.getElem?_set_ne (by omega)];exact hx.2.1, ?_,by rw [List.getElem?_set_ne (by omega)];exact hx.2.2.2⟩
  rw [List.getElem?_set_self hlen];rfl
 ·rw [show (b.setCor c { b.cor c with runs:=none }).cor i=b.cor i from upd_other _ _ _ _ e]
  exact ⟨by rw [List.getElem?_set_ne (by omega)];exact hx.1,by rw [List.getElem?_set_ne (by omega)];exact hx.2.1,by rw [List.getElem?_set_ne (by omega)];exact hx.2.2.1,by rw [List.getElem?_set_ne (by omega)];exact hx.2.2.2⟩
end
section
variable {w:World} {Y:Lay} {b:Bd}
set_option maxRecDepth 100000 in
theorem bHas_any (c:Int) (h:BdAt w Y b):
  Calls Tryz.prog 33 #[ptr Y.bd, .int .i64 c] w fun e w'=>e= .returned (.bool (decide (b.has c)))∧w=w':=by
 have c4:=h.board.cell 4
 simp only [List.getElem?_cons_zero,List.getElem?_cons_succ] at c4
 unfold ptr Bd.has
 clear h
 by_cases h0:0≤c
 ·have e0:decide (0≤c)=true:=by simpa using h0
  by_cases h1:c<(b.n:Int)
  ·have e1:decide (c<(b.n:Int))=true:=by simpa using h1
   have hr:decide (0≤c∧c<(b.n:Int))=true:=by simp [h0,h1]
   rw [hr]
   go_enter Tryz.func33,Tryz.ntmps33
   go_wp2_with fail
   go_ret
   exact ⟨by simp [h1],rfl⟩
  ·have hr:decide (0≤c∧c<(b.n:Int))=false:=by simp [h1]
   rw [hr]
   go_enter Tryz.func33,Tryz.ntmps33
   go_wp2_with fail
   go_ret
   exact ⟨by simp [h1],rfl⟩
 ·have hr:decide (0≤c∧c<(b.n:Int))=false:=by simp [h0]
  rw [hr]
  go_enter Tryz.func33,Tryz.ntmps33
  go_wp2_with fail
  go_ret
  exact ⟨by simp [h0],rfl⟩
def Bd.readyR (b:Bd) (c:Int):Int:=if b.has c then (if b.up c.toNat then 0 else 19) else 3
theorem upR_of (hcores:b.sc.g.cores=b.n) {c:Int} (hh:b.has c):Gates.upR b.sc.g c=decide (b.up c.toNat):=by
 have h1:0≤c∧c<(b.n:Int):=hh
 unfold Gates.upR Gates.coreE Bd.up
 rw [hcores,if_pos h1]
 by_cases q:b.sc.g.held.getD c.toNat false=true
 ·simp [q]
 ·simp [q]
set_option maxRecDepth 100000 in
theorem bReady_any (c:Int) (h:BdAt w Y b):
  Calls Tryz.prog 48 #[ptr Y.bd, .int .i64 c] w fun e w'=>e= .returned (.int .i64 (b.readyR c))∧w=w':=by
 have hH:=bHas_any c h
 have c3:=h.board.cell 3
 simp only [List.getElem?_cons_zero,List.getElem?_cons_succ,ptr] at c3
 have hcores:=h.soc.cores
 by_cases hh:b.has c
 ·have hU:=socUp_any Y.S _ _ _ _ _ _ _ c w h.soc
  rw [upR_of hcores hh] at hU
  rw [decide_eq_true hh] at hH
  by_cases hu:b.up c.toNat
  ·have hr:b.readyR c=0:=by unfold Bd.readyR;rw [if_pos hh,if_pos hu]
   rw [hr]
   rw [decide_eq_true hu] at hU
   have HH:=Lib.hid hH
   have HU:=Lib.hid hU
   clear hH hU h hh hu hr
   unfold ptr at *
   go_enter Tryz.func48,Tryz.ntmps48
   go_wp2_with fail
   refine HH.out.mono ?_
   rintro e w' ⟨rfl,rfl⟩
   go_wp2_with fail
   refine HU.out.mono ?_
   rintro e w' ⟨rfl,rfl⟩
   go_wp2_with fail
   go_ret
   exact ⟨rfl,rfl⟩
  ·have hr:b.readyR c=19:=by unfold Bd.readyR;rw [if_pos hh,if_neg hu]
   rw [hr]
   rw [decide_eq_false hu] at hU
   have HH:=Lib.hid hH
   have HU:=Lib.hid hU
   clear hH hU h hh hu hr
   unfold ptr at *
   go_enter Tryz.func48,Tryz.ntmps48
   go_wp2_with fail
   refine HH.out.mono ?_
   rintro e w' ⟨rfl,rfl⟩
   go_wp2_with fail
   refine HU.out.mono ?_
   rintro e w' ⟨rfl,rfl⟩
   go_wp2_with fail
   go_ret
   exact ⟨rfl,rfl⟩
 ·have hr:b.readyR c=3:=by unfold Bd.readyR;rw [if_neg hh]
  rw [hr]
  rw [decide_eq_false hh] at hH
  have HH:=Lib.hid hH
  clear hH h hh hr
  unfold ptr at *
  go_enter Tryz.func48,Tryz.ntmps48
  go_wp2_with fail
  refine HH.out.mono ?_
  rintro e w' ⟨rfl,rfl⟩
  go_wp2_with fail
  go_ret
  exact ⟨rfl,rfl⟩
theorem ifc_nil (ty:TypeId) (k:Nat) (w:World):(binOp .eql 69 (.iface ty (.pointer (some ⟨k,0,none⟩))) .nilIface).run Tryz.prog w= .ok (.bool false) w:=by kernel_rfl
theorem ahead_gstep (p:Nat) (w:World):(nilAhead 344 109 (.pointer (some ⟨p,0,none⟩)) "Step").run Tryz.prog w= .ok (some false) w:=by kernel_rfl
theorem meth_gstep (p:Nat) (w:World):(method 344 109 (.pointer (some ⟨p,0,none⟩)) "Step").run Tryz.prog w= .ok (157, .pointer (some ⟨p,0,none⟩)) w:=by kernel_rfl
theorem ahead_tstep (p:Nat) (w:World):(nilAhead 344 111 (.pointer (some ⟨p,0,none⟩)) "Step").run Tryz.prog w= .ok (some false) w:=by kernel_rfl
theorem meth_tstep (p:Nat) (w:World):(method 344 111 (.pointer (some ⟨p,0,none⟩)) "Step").run Tryz.prog w= .ok (168, .pointer (some ⟨p,0,none⟩)) w:=by kernel_rfl
end
section
variable {w:World} {Y:Lay} {b:Bd}
theorem bGiv_of {c p q:Nat} (hc:c<b.n) (hp:p<b.n) (hpc:p≠c) (hu:b.upb c=true) (ok:((b.cor c).giv p).Ok b.n (chanWords b.n b.ring)) (h0:((b.cor c).giv p).pc≠0) (h:BdAt w Y b) (hq:PortAt w Y.S q c):
  Calls Tryz.prog 157 #[ptr (Y.gb c p),port q] w fun e w'=>e= .returned (.tuple #[.bool (((b.cor c).giv p).go (b.sc.tch b.most c ((b.cor c).giv p).tch).2).2.1, .int .i64 (((b.cor c).giv p).go (b.sc.tch b.most c ((b.cor c).giv p).tch).2).2.2])∧
   BdTo w Y b ((b.setSc (b.sc.tch b.most c ((b.cor c).giv p).tch).1).setCor c { b.cor c with giv:=upd (b.cor c).giv p (((b.cor c).giv p).go (b.sc.tch b.most c ((b.cor c).giv p).tch).2).1 }) w'∧∀a:Addr,BrdF Y b a.block→w'.cell? a=w.cell? a:=by
 obtain ⟨tag,o⟩:=h.own
 have hua:upAt b.sc.g c:=by unfold upAt;unfold Bd.upb at hu;simpa using hu
 refine (gDo_any Y.S b.n (chanWords b.n b.ring) b.most Y.vs b.sc q c hc hua (Y.gb c p) (Y.vf c p) (Y.vo c p) (Y.vl c p) _ ok w h0 (h.giv c p hc hp hpc hu) (fun k hk e=>by have:=o.giv c p hc hp hpc hu k hk;rw [o.soc k e] at this;cases this) h.glob.ahead hq h.soc).mono ?_
 rintro e w' ⟨he,vs',vf',vo',hs,hg,hm⟩
 refine ⟨he,h.gmoved hc hp hpc hu (tch_g _) hs hg hm,fun a ha=>hm.keep.cell (h.lt _ (.inr (.inr ha))) (fun q=> ?_)⟩
 have h1:=o.brd _ ha
 rcases q with q|q
 ·rw [o.soc _ q] at h1;cases h1
 ·rw [o.giv c p hc hp hpc hu _ q] at h1;cases h1
theorem bTak_of {c p q:Nat} (hc:c<b.n) (hp:p<b.n) (hpc:p≠c) (hu:b.upb c=true) (ok:((b.cor c).tak p).Ok b.n (chanWords b.n b.ring)) (h0:((b.cor c).tak p).pc≠0) (hr:0≤(b.sc.tch b.most c ((b.cor c).tak p).tch).2) (h:BdAt w Y b) (hq:PortAt w Y.S q c):
  Calls Tryz.prog 168 #[ptr (Y.tk c p),port q] w fun e w'=>e= .returned (.tuple #[.bool (((b.cor c).tak p).go (b.sc.tch b.most c ((b.cor c).tak p).tch).2).2.1, .int .i64 (((b.cor c).tak p).go (b.sc.tch b.most c ((b.cor c).tak p).tch).2).2.2])∧
   BdTo w Y b ((b.setSc (b.sc.tch b.most c ((b.cor c).tak p).tch).1).setCor c { b.cor c with tak:=upd (b.cor c).tak p (((b.cor c).tak p).go (b.sc.tch b.most c ((b.cor c).tak p).tch).2).1 }) w'∧∀a:Addr,BrdF Y b a.block→w'.cell? a=w.cell? a:=by
 obtain ⟨tag,o⟩:=h.own
 have hua:upAt b.sc.g c:=by unfold upAt;unfold Bd.upb at hu;simpa using hu
 refine (tDo_any Y.S b.n (chanWords b.n b.ring) b.most Y.vs b.sc q c hc hua (Y.tk c p) (Y.tt c p) (Y.vtl c p) _ ok w h0 hr (h.tak c p hc hp hpc hu) (fun k hk e=>by have:=o.tak c p hc hp hpc hu k hk;rw [o.soc k e] at this;cases this) h.glob.ahead hq h.soc).mono ?_
 rintro e w' ⟨he,vs',vl',hs,hg,hm⟩
 refine ⟨he,h.tmoved hc hp hpc hu (tch_g _) hs hg hm,fun a ha=>hm.keep.cell (h.lt _ (.inr (.inr ha))) (fun q=> ?_)⟩
 have h1:=o.brd _ ha
 rcases q with q|q
 ·rw [o.soc _ q] at h1;cases h1
 ·rw [o.tak c p hc hp hpc hu _ q] at h1;cases h1
theorem BdAt.runCells (h:BdAt w Y b) {c:Nat} (hc:c<b.n):w.cell? ⟨Y.cg,c*4+2,none⟩=some (runV Y c (b.cor c).runs)∧w.cell? ⟨Y.cg,c*4+3,none⟩=some (.int .i64 (b.cor c).entry)∧w.cell? ⟨Y.bd,3,none⟩=some (ptr Y.S.soc)∧w.cell? ⟨Y.bd,4,none⟩=some (.slice (some ⟨Y.cg,0,none⟩) b.n Y.ccap)∧w.cell? ⟨Y.bd,5,none⟩=some Y.vd∧w.cell? ⟨Y.bd,6,none⟩=some (.int .i64 b.now)∧w.frozen? ⟨Y.cg,c*4+2,none⟩=false∧w.frozen? ⟨Y.cg,c*4+3,none⟩=false:=by
 obtain ⟨cs,hcs,hcc⟩:=h.cores
 obtain ⟨q1,q2,q3,q4⟩:=hcc c hc
 exact ⟨by rw [hcs.cell];exact q3,by rw [hcs.cell];exact q4,h.board.cell 3,h.board.cell 4,h.board.cell 5,h.board.cell 6,hcs.free _,hcs.free _⟩
set_option maxRecDepth 100000 in
theorem bStepG_stay {c p:Nat} (hc:c<b.n) (hp:p<b.n) (hpc:p≠c) (hu:b.upb c=true) (hrun:(b.cor c).runs=some (.giv p)) (ok:((b.cor c).giv p).Ok b.n (chanWords b.n b.ring)) (h0:((b.cor c).giv p).pc≠0) (o:Giv × Bool × Int) (ho:((b.cor c).giv p).go (b.sc.tch b.most c ((b.cor c).giv p).tch).2=o) (hdn:o.2.1=false) (h:BdAt w Y b):
  Calls Tryz.prog 22 #[ptr Y.bd, .int .i64 c] w fun e w'=>e= .returned (.int .i64 0)∧BdTo w Y b ((b.setSc (b.sc.tch b.most c ((b.cor c).giv p).tch).1).setCor c { b.cor c with giv:=upd (b.cor c).giv p o.1 }) w':=by
 have hR:=bReady_any c h
 have hr0:b.readyR c=0:=by unfold Bd.readyR;rw [if_pos (show b.has c from ⟨by omega,by omega⟩),if_pos (show b.up (c:Int).toNat from (upb_up b _).1 (by simpa using hu))]
 rw [hr0] at hR
 have hS:=fun u q (hb:Below w.heap.size w u) (hq:PortAt u Y.S q c)=>bGiv_of hc hp hpc hu ok h0 (h.fresh hb) hq
 rw [ho] at hS
 obtain ⟨g',dn,er⟩:=o
 simp only at hdn hS ⊢
 subst hdn
 have hk:∀u,Below w.heap.size w u→u.cell? ⟨Y.cg,c*4+2,none⟩=some (.iface 109 (.pointer (some ⟨Y.gb c p,0,none⟩)))∧u.cell? ⟨Y.bd,3,none⟩=some (.pointer (some ⟨Y.S.soc,0,none⟩)):=by
  intro u hb
  have:=(h.fresh hb).runCells hc
  rw [hrun] at this
  exact ⟨this.1,this.2.2.1⟩
 have c4:=(h.runCells hc).2.2.2.1
 have hc0:(0:Int)≤(c:Int):=by omega
 have hc1:(c:Int)<(b.n:Int):=by omega
 have cr:=(hk w (Below.refl _ _)).1
 have hin:=ifc_nil 109 (Y.gb c p)
 have hn:=ahead_gstep (Y.gb c p)
 have hm:=meth_gstep (Y.gb c p)
 have hb:=(Below.refl w.heap.size w).drew
 have HR:=Lib.hid hR
 have HS:=Lib.hid hS
 have HK:=Lib.hid hk
 generalize hB1:(b.setSc (b.sc.tch b.most c ((b.cor c).giv p).tch).1).setCor c { b.cor c with giv:=upd (b.cor c).giv p g' }=b1 at *
 clear hR hS hk h hr0 hrun ok h0 ho hB1
 unfold ptr at *
 go_enter Tryz.func22,Tryz.ntmps22
 go_wp2_with fail
 refine HR.out.mono ?_
 rintro e w' ⟨rfl,rfl⟩
 go_wp2_with fail
 go_region_held3 (fun u=>u.cell? ⟨Y.cg,c*4+2,none⟩=some (.iface 109 (.pointer (some ⟨Y.gb c p,0,none⟩)))∧u.cell? ⟨Y.bd,3,none⟩=some (.pointer (some ⟨Y.S.soc,0,none⟩)))
  (first|exact HK.out _ hb|assumption)
  (first|(go_at_call 49;refine (ofCore_any Y.S c _).mono ?_;rintro e w1 ⟨rfl,rfl⟩;have hb1:=hb.alloc hb.size (.cells #[.pointer (some ⟨Y.S.soc,0,none⟩), .int .i64 c] 165);have hq1:=HK.out _ hb1)|(go_at_call 157;refine (HS.out _ _ hb1 (Blk.new _ _ _)).mono ?_;rintro e w2 ⟨rfl,hT2,hC2⟩;have hq2:=And.intro ((hC2 ⟨Y.cg,c*4+2,none⟩ (.inr (.inl rfl))).trans hq1.1) ((hC2 ⟨Y.bd,3,none⟩ (.inl rfl)).trans hq1.2)))
 have HT:=Lib.hid (BdTo.from_ hb1 hT2)
 clear hT2 hC2 hq2 hq1
 go_wp2_with fail
 go_ret
 exact ⟨rfl,HT.out⟩
end
theorem assert_no (k:Nat) (w:World):(Instr.typeAssert (.iface 109 (.pointer (some ⟨k,0,none⟩))) 69 111 true).run Tryz.prog w= .ok (.tuple #[.pointer none, .bool false]) w:=by kernel_rfl
theorem assert_yes (k:Nat) (w:World):(Instr.typeAssert (.iface 111 (.pointer (some ⟨k,0,none⟩))) 69 111 true).run Tryz.prog w= .ok (.tuple #[.pointer (some ⟨k,0,none⟩), .bool true]) w:=by kernel_rfl
section
variable {w:World} {Y:Lay} {b:Bd}
theorem BdTo.step {w1 w2:World} {Y1:Lay} {b1 b2:Bd} (y:Y1.bd=Y.bd∧Y1.cg=Y.cg) (k1:Keep (BdF Y b) w w1) (n1:∀k,BdF Y1 b1 k→BdF Y b k∨w.heap.size≤k) (g:BdTo w1 Y1 b1 b2 w2):BdTo w Y b b2 w2:=by
 obtain ⟨Y2,g0,g1,g2,g3⟩:=g
 refine ⟨Y2,⟨g0.1.trans y.1,g0.2.trans y.2⟩,g1,k1.trans g2 (fun k hk q=> ?_),fun k hk=> ?_⟩
 ·rcases n1 k q with e|e
  ·exact e
  ·omega
 ·rcases g3 k hk with e|e
  ·exact n1 k e
  ·exact .inr (Nat.le_trans k1.size e)
theorem BdAt.entCell (h:BdAt w Y b) {k:Nat} (hk:k<b.diary.length):∃dg dc,Y.vd= .slice (some ⟨dg,0,none⟩) b.diary.length dc∧b.diary.length≤dc∧
  w.cell? ⟨dg,k*8+2,none⟩=some (.int .i64 (b.diary.getD k Ent.none_).kind)∧w.cell? ⟨dg,k*8+4,none⟩=some (.int .i64 (b.diary.getD k Ent.none_).fin)∧w.cell? ⟨dg,k*8+5,none⟩=some (.int .i64 (b.diary.getD k Ent.none_).err)∧w.cell? ⟨dg,k*8+6,none⟩=some (Y.dl k)∧w.cell? ⟨dg,k*8+7,none⟩=some (.int .i64 (b.diary.getD k Ent.none_).handle)∧
  w.frozen? ⟨dg,k*8+4,none⟩=false∧w.frozen? ⟨dg,k*8+5,none⟩=false∧w.frozen? ⟨dg,k*8+6,none⟩=false∧w.frozen? ⟨dg,k*8+7,none⟩=false∧dg≠Y.bd∧dg≠Y.cg:=by
 obtain ⟨dg,dc,hv,hc,⟨cur,hcur⟩,hcell⟩:=h.diary.cells (by omega)
 have hcl:=h.cores
 obtain ⟨cs,hcs,_⟩:=hcl
 refine ⟨dg,dc,hv,hc, ?_, ?_, ?_, ?_, ?_,(hcell _ (by omega)).2,(hcell _ (by omega)).2,(hcell _ (by omega)).2,(hcell _ (by omega)).2,hcur.ne h.board (by decide),hcur.ne hcs (by decide)⟩
 ·rw [(hcell _ (by omega)).1,diaCells_get _ _ hk (by omega)];rfl
 ·rw [(hcell _ (by omega)).1,diaCells_get _ _ hk (by omega)];rfl
 ·rw [(hcell _ (by omega)).1,diaCells_get _ _ hk (by omega)];rfl
 ·rw [(hcell _ (by omega)).1,diaCells_get _ _ hk (by omega)];rfl
 ·rw [(hcell _ (by omega)).1,diaCells_get _ _ hk (by omega)];rfl
set_option maxRecDepth 100000 in
theorem bStepG_end {c p:Nat} (hc:c<b.n) (hp:p<b.n) (hpc:p≠c) (hu:b.upb c=true) (hrun:(b.cor c).runs=some (.giv p)) (hent:(b.cor c).entry<b.diary.length) (ok:((b.cor c).giv p).Ok b.n (chanWords b.n b.ring)) (h0:((b.cor c).giv p).pc≠0) (o:Giv × Bool × Int) (ho:((b.cor c).giv p).go (b.sc.tch b.most c ((b.cor c).giv p).tch).2=o) (hdn:o.2.1=true) (h:BdAt w Y b):
  Calls Tryz.prog 22 #[ptr Y.bd, .int .i64 c] w fun e w'=>e= .returned (.int .i64 0)∧BdTo w Y b { (b.setSc (b.sc.tch b.most c ((b.cor c).giv p).tch).1).setCor c { b.cor c with giv:=upd (b.cor c).giv p o.1,runs:=none } with diary:=b.fin (b.cor c).entry o.2.2 } w':=by
 have hR:=bReady_any c h
 have hr0:b.readyR c=0:=by unfold Bd.readyR;rw [if_pos (show b.has c from ⟨by omega,by omega⟩),if_pos (show b.up (c:Int).toNat from (upb_up b _).1 (by simpa using hu))]
 rw [hr0] at hR
 have hS:=fun u q (hb:Below w.heap.size w u) (hq:PortAt u Y.S q c)=>bGiv_of hc hp hpc hu ok h0 (h.fresh hb) hq
 rw [ho] at hS
 obtain ⟨g',dn,er⟩:=o
 simp only at hdn hS ⊢
 subst hdn
 have hk:∀u,Below w.heap.size w u→u.cell? ⟨Y.cg,c*4+2,none⟩=some (.iface 109 (.pointer (some ⟨Y.gb c p,0,none⟩)))∧u.cell? ⟨Y.bd,3,none⟩=some (.pointer (some ⟨Y.S.soc,0,none⟩)):=by
  intro u hb
  have:=(h.fresh hb).runCells hc
  rw [hrun] at this
  exact ⟨this.1,this.2.2.1⟩
 have c4:=(h.runCells hc).2.2.2.1
 have hc0:(0:Int)≤(c:Int):=by omega
 have hc1:(c:Int)<(b.n:Int):=by omega
 have cr:=(hk w (Below.refl _ _)).1
 have hin:=ifc_nil 109 (Y.gb c p)
 have hn:=ahead_gstep (Y.gb c p)
 have hm:=meth_gstep (Y.gb c p)
 have hb:=(Below.refl w.heap.size w).drew
 have HR:=Lib.hid hR
 have HS:=Lib.hid hS
 have HK:=Lib.hid hk
 generalize hB1:(b.setSc (b.sc.tch b.most c ((b.cor c).giv p).tch).1).setCor c { b.cor c with giv:=upd (b.cor c).giv p g' }=b1 at *
 have hfin:({ (b.setSc (b.sc.tch b.most c ((b.cor c).giv p).tch).1).setCor c { b.cor c with giv:=upd (b.cor c).giv p g',runs:=none } with diary:=b.fin (b.cor c).entry er }:Bd)=({ b1 with diary:=b1.diary.set (b1.cor c).entry { b1.diary.getD (b1.cor c).entry Ent.none_ with fin:=b1.now,err:=er } }:Bd).setCor c { ({ b1 with diary:=b1.diary.set (b1.cor c).entry { b1.diary.getD (b1.cor c).entry Ent.none_ with fin:=b1.now,err:=er } }:Bd).cor c with runs:=none }:=by
  subst hB1
  have hcc:((b.setSc (b.sc.tch b.most c ((b.cor c).giv p).tch).1).setCor c { b.cor c with giv:=upd (b.cor c).giv p g' }).cor c= { b.cor c with giv:=upd (b.cor c).giv p g' }:=upd_same _ _ _
  simp only [hcc]
  simp only [Bd.setCor,Bd.setSc,Bd.fin,upd_upd]
 rw [hfin]
 have hc':c<b1.n:=by subst hB1;exact hc
 have hlen:b1.diary.length=b.diary.length:=by subst hB1;rfl
 have hnow:b1.now=b.now:=by subst hB1;rfl
 have hent1:(b1.cor c).entry<b1.diary.length:=by subst hB1;rw [show ((b.setSc (b.sc.tch b.most c ((b.cor c).giv p).tch).1).setCor c { b.cor c with giv:=upd (b.cor c).giv p g' }).cor c= { b.cor c with giv:=upd (b.cor c).giv p g' } from upd_same _ _ _];exact hent
 have hrun1:(b1.cor c).runs=some (.giv p):=by subst hB1;rw [show ((b.setSc (b.sc.tch b.most c ((b.cor c).giv p).tch).1).setCor c { b.cor c with giv:=upd (b.cor c).giv p g' }).cor c= { b.cor c with giv:=upd (b.cor c).giv p g' } from upd_same _ _ _];exact hrun
 clear hR hS hk h hr0 hrun ok h0 ho hB1 hfin hent hlen hnow
 unfold ptr at *
 go_enter Tryz.func22,Tryz.ntmps22
 go_wp2_with fail
 refine HR.out.mono ?_
 rintro e w' ⟨rfl,rfl⟩
 go_wp2_with fail
 go_region_held3 (fun u=>u.cell? ⟨Y.cg,c*4+2,none⟩=some (.iface 109 (.pointer (some ⟨Y.gb c p,0,none⟩)))∧u.cell? ⟨Y.bd,3,none⟩=some (.pointer (some ⟨Y.S.soc,0,none⟩)))
  (first|exact HK.out _ hb|assumption)
  (first|(go_at_call 49;refine (ofCore_any Y.S c _).mono ?_;rintro e w1 ⟨rfl,rfl⟩;have hb1:=hb.alloc hb.size (.cells #[.pointer (some ⟨Y.S.soc,0,none⟩), .int .i64 c] 165);have hq1:=HK.out _ hb1)|(go_at_call 157;refine (HS.out _ _ hb1 (Blk.new _ _ _)).mono ?_;rintro e w2 ⟨rfl,hT2,hC2⟩;have hq2:=And.intro ((hC2 ⟨Y.cg,c*4+2,none⟩ (.inr (.inl rfl))).trans hq1.1) ((hC2 ⟨Y.bd,3,none⟩ (.inl rfl)).trans hq1.2)))
 obtain ⟨Y1,⟨y1,y2⟩,h1,k1,n1⟩:=BdTo.from_ hb1 hT2
 have HST:=Lib.hid (And.intro k1 n1)
 clear hT2 hC2 hq2 hq1 k1 n1 c4 cr HK HS hb hb1
 have rc:=h1.runCells hc'
 obtain ⟨dg,dc,hv,hdc,e2,e4,e5,e6,e7,f4,f5,f6,f7,ne1,ne2⟩:=h1.entCell hent1
 rw [hrun1,y1,y2,hv] at rc
 obtain ⟨r2,r3,r_,r4,r5,r6,g2,g3⟩:=rc
 simp only [runV,ptr] at r2
 have hfinT:=h1.setFin hent1 er hv
 have HF:=Lib.hid hfinT
 have ek0:(0:Int)≤((b1.cor c).entry:Int):=by omega
 have ek1:((b1.cor c).entry:Int)<(b1.diary.length:Int):=by omega
 have HRUN:=Lib.hid (And.intro hrun1 hc');clear hrun1 hc'
 clear hfinT h1 r_ r4 e6 e7 f6 f7 e2 hv
 generalize hen:(b1.cor c).entry=en at *
 generalize hle:b1.diary.length=len at *
 clear hle
 have HEN:=Lib.hid hen;clear hen
 have hno:=assert_no (Y.gb c p)
 have hno1:=assert_no (Y1.gb c p)
 go_wp2_with fail
 go_region
 go_wp2_with fail
 go_ret
 refine ⟨rfl,BdTo.step ⟨y1,y2⟩ HST.out.1 HST.out.2 ?_⟩
 obtain ⟨Y2,⟨z1,z2⟩,h2,k2,n2⟩:=HF.out
 have hi:=h2.setIdle (c:=c) HRUN.out.2
 rw [z2,y2] at hi
 have hen:=HEN.out
 clear HEN
 subst hen
 exact (BdTo.step ⟨z1,z2⟩ k2 n2 hi).fresh (Below.refl _ _).drew
end
section
variable {w:World} {Y:Lay} {b:Bd}
set_option maxRecDepth 100000 in
theorem bStepT_stay {c p:Nat} (hc:c<b.n) (hp:p<b.n) (hpc:p≠c) (hu:b.upb c=true) (hrun:(b.cor c).runs=some (.tak p)) (ok:((b.cor c).tak p).Ok b.n (chanWords b.n b.ring)) (h0:((b.cor c).tak p).pc≠0) (hrng:0≤(b.sc.tch b.most c ((b.cor c).tak p).tch).2) (o:Tak × Bool × Int) (ho:((b.cor c).tak p).go (b.sc.tch b.most c ((b.cor c).tak p).tch).2=o) (hdn:o.2.1=false) (h:BdAt w Y b):
  Calls Tryz.prog 22 #[ptr Y.bd, .int .i64 c] w fun e w'=>e= .returned (.int .i64 0)∧BdTo w Y b ((b.setSc (b.sc.tch b.most c ((b.cor c).tak p).tch).1).setCor c { b.cor c with tak:=upd (b.cor c).tak p o.1 }) w':=by
 have hR:=bReady_any c h
 have hr0:b.readyR c=0:=by unfold Bd.readyR;rw [if_pos (show b.has c from ⟨by omega,by omega⟩),if_pos (show b.up (c:Int).toNat from (upb_up b _).1 (by simpa using hu))]
 rw [hr0] at hR
 have hS:=fun u q (hb:Below w.heap.size w u) (hq:PortAt u Y.S q c)=>bTak_of hc hp hpc hu ok h0 hrng (h.fresh hb) hq
 rw [ho] at hS
 obtain ⟨g',dn,er⟩:=o
 simp only at hdn hS ⊢
 subst hdn
 have hk:∀u,Below w.heap.size w u→u.cell? ⟨Y.cg,c*4+2,none⟩=some (.iface 111 (.pointer (some ⟨Y.tk c p,0,none⟩)))∧u.cell? ⟨Y.bd,3,none⟩=some (.pointer (some ⟨Y.S.soc,0,none⟩)):=by
  intro u hb
  have:=(h.fresh hb).runCells hc
  rw [hrun] at this
  exact ⟨this.1,this.2.2.1⟩
 have c4:=(h.runCells hc).2.2.2.1
 have hc0:(0:Int)≤(c:Int):=by omega
 have hc1:(c:Int)<(b.n:Int):=by omega
 have cr:=(hk w (Below.refl _ _)).1
 have hin:=ifc_nil 111 (Y.tk c p)
 have hn:=ahead_tstep (Y.tk c p)
 have hm:=meth_tstep (Y.tk c p)
 have hb:=(Below.refl w.heap.size w).drew
 have HR:=Lib.hid hR
 have HS:=Lib.hid hS
 have HK:=Lib.hid hk
 generalize hB1:(b.setSc (b.sc.tch b.most c ((b.cor c).tak p).tch).1).setCor c { b.cor c with tak:=upd (b.cor c).tak p g' }=b1 at *
 clear hR hS hk h hr0 hrun ok h0 hrng ho hB1
 unfold ptr at *
 go_enter Tryz.func22,Tryz.ntmps22
 go_wp2_with fail
 refine HR.out.mono ?_
 rintro e w' ⟨rfl,rfl⟩
 go_wp2_with fail
 go_region_held3 (fun u=>u.cell? ⟨Y.cg,c*4+2,none⟩=some (.iface 111 (.pointer (some ⟨Y.tk c p,0,none⟩)))∧u.cell? ⟨Y.bd,3,none⟩=some (.pointer (some ⟨Y.S.soc,0,none⟩)))
  (first|exact HK.out _ hb|assumption)
  (first|(go_at_call 49;refine (ofCore_any Y.S c _).mono ?_;rintro e w1 ⟨rfl,rfl⟩;have hb1:=hb.alloc hb.size (.cells #[.pointer (some ⟨Y.S.soc,0,none⟩), .int .i64 c] 165);have hq1:=HK.out _ hb1)|(go_at_call 168;refine (HS.out _ _ hb1 (Blk.new _ _ _)).mono ?_;rintro e w2 ⟨rfl,hT2,hC2⟩;have hq2:=And.intro ((hC2 ⟨Y.cg,c*4+2,none⟩ (.inr (.inl rfl))).trans hq1.1) ((hC2 ⟨Y.bd,3,none⟩ (.inl rfl)).trans hq1.2)))
 have HT:=Lib.hid (BdTo.from_ hb1 hT2)
 clear hT2 hC2 hq2 hq1
 go_wp2_with fail
 go_ret
 exact ⟨rfl,HT.out⟩
set_option maxRecDepth 100000 in
theorem bStepT_endNo {c p:Nat} (hc:c<b.n) (hp:p<b.n) (hpc:p≠c) (hu:b.upb c=true) (hrun:(b.cor c).runs=some (.tak p)) (hent:(b.cor c).entry<b.diary.length) (ok:((b.cor c).tak p).Ok b.n (chanWords b.n b.ring)) (h0:((b.cor c).tak p).pc≠0) (hrng:0≤(b.sc.tch b.most c ((b.cor c).tak p).tch).2) (o:Tak × Bool × Int) (ho:((b.cor c).tak p).go (b.sc.tch b.most c ((b.cor c).tak p).tch).2=o) (hdn:o.2.1=true) (hno: ¬((b.diary.getD (b.cor c).entry Ent.none_).kind=2∧o.2.2=0)) (h:BdAt w Y b):
  Calls Tryz.prog 22 #[ptr Y.bd, .int .i64 c] w fun e w'=>e= .returned (.int .i64 0)∧BdTo w Y b { (b.setSc (b.sc.tch b.most c ((b.cor c).tak p).tch).1).setCor c { b.cor c with tak:=upd (b.cor c).tak p o.1,runs:=none } with diary:=b.finT (b.cor c).entry o.2.2 o.1.gotR } w':=by
 have hR:=bReady_any c h
 have hr0:b.readyR c=0:=by unfold Bd.readyR;rw [if_pos (show b.has c from ⟨by omega,by omega⟩),if_pos (show b.up (c:Int).toNat from (upb_up b _).1 (by simpa using hu))]
 rw [hr0] at hR
 have hS:=fun u q (hb:Below w.heap.size w u) (hq:PortAt u Y.S q c)=>bTak_of hc hp hpc hu ok h0 hrng (h.fresh hb) hq
 rw [ho] at hS
 obtain ⟨g',dn,er⟩:=o
 simp only at hdn hS hno ⊢
 subst hdn
 have hft:b.finT (b.cor c).entry er g'.gotR=b.fin (b.cor c).entry er:=by unfold Bd.finT Bd.fin;simp only;rw [if_neg hno]
 rw [hft]
 clear hft
 have hk:∀u,Below w.heap.size w u→u.cell? ⟨Y.cg,c*4+2,none⟩=some (.iface 111 (.pointer (some ⟨Y.tk c p,0,none⟩)))∧u.cell? ⟨Y.bd,3,none⟩=some (.pointer (some ⟨Y.S.soc,0,none⟩)):=by
  intro u hb
  have:=(h.fresh hb).runCells hc
  rw [hrun] at this
  exact ⟨this.1,this.2.2.1⟩
 have c4:=(h.runCells hc).2.2.2.1
 have hc0:(0:Int)≤(c:Int):=by omega
 have hc1:(c:Int)<(b.n:Int):=by omega
 have cr:=(hk w (Below.refl _ _)).1
 have hin:=ifc_nil 111 (Y.tk c p)
 have hn:=ahead_tstep (Y.tk c p)
 have hm:=meth_tstep (Y.tk c p)
 have hb:=(Below.refl w.heap.size w).drew
 have HR:=Lib.hid hR
 have HS:=Lib.hid hS
 have HK:=Lib.hid hk
 generalize hB1:(b.setSc (b.sc.tch b.most c ((b.cor c).tak p).tch).1).setCor c { b.cor c with tak:=upd (b.cor c).tak p g' }=b1 at *
 have hfin:({ (b.setSc (b.sc.tch b.most c ((b.cor c).tak p).tch).1).setCor c { b.cor c with tak:=upd (b.cor c).tak p g',runs:=none } with diary:=b.fin (b.cor c).entry er }:Bd)=({ b1 with diary:=b1.diary.set (b1.cor c).entry { b1.diary.getD (b1.cor c).entry Ent.none_ with fin:=b1.now,err:=er } }:Bd).setCor c { ({ b1 with diary:=b1.diary.set (b1.cor c).entry { b1.diary.getD (b1.cor c).entry Ent.none_ with fin:=b1.now,err:=er } }:Bd).cor c with runs:=none }:=by
  subst hB1
  have hcc:((b.setSc (b.sc.tch b.most c ((b.cor c).tak p).tch).1).setCor c { b.cor c with tak:=upd (b.cor c).tak p g' }).cor c= { b.cor c with tak:=upd (b.cor c).tak p g' }:=upd_same _ _ _
  simp only [hcc]
  simp only [Bd.setCor,Bd.setSc,Bd.fin,upd_upd]
 rw [hfin]
 have hc':c<b1.n:=by subst hB1;exact hc
 have hlen:b1.diary.length=b.diary.length:=by subst hB1;rfl
 have hnow:b1.now=b.now:=by subst hB1;rfl
 have hkd:(b1.diary.getD (b1.cor c).entry Ent.none_).kind=(b.diary.getD (b.cor c).entry Ent.none_).kind:=by subst hB1;rw [show ((b.setSc (b.sc.tch b.most c ((b.cor c).tak p).tch).1).setCor c { b.cor c with tak:=upd (b.cor c).tak p g' }).cor c= { b.cor c with tak:=upd (b.cor c).tak p g' } from upd_same _ _ _];rfl
 rw [←hkd] at hno
 have hent1:(b1.cor c).entry<b1.diary.length:=by subst hB1;rw [show ((b.setSc (b.sc.tch b.most c ((b.cor c).tak p).tch).1).setCor c { b.cor c with tak:=upd (b.cor c).tak p g' }).cor c= { b.cor c with tak:=upd (b.cor c).tak p g' } from upd_same _ _ _];exact hent
 have hrun1:(b1.cor c).runs=some (.tak p):=by subst hB1;rw [show ((b.setSc (b.sc.tch b.most c ((b.cor c).tak p).tch).1).setCor c { b.cor c with tak:=upd (b.cor c).tak p g' }).cor c= { b.cor c with tak:=upd (b.cor c).tak p g' } from upd_same _ _ _];exact hrun
 clear hR hS hk h hr0 hrun ok h0 hrng ho hB1 hfin hent hlen hnow hkd
 unfold ptr at *
 go_enter Tryz.func22,Tryz.ntmps22
 go_wp2_with fail
 refine HR.out.mono ?_
 rintro e w' ⟨rfl,rfl⟩
 go_wp2_with fail
 go_region_held3 (fun u=>u.cell? ⟨Y.cg,c*4+2,none⟩=some (.iface 111 (.pointer (some ⟨Y.tk c p,0,none⟩)))∧u.cell? ⟨Y.bd,3,none⟩=some (.pointer (some ⟨Y.S.soc,0,none⟩)))
  (first|exact HK.out _ hb|assumption)
  (first|(go_at_call 49;refine (ofCore_any Y.S c _).mono ?_;rintro e w1 ⟨rfl,rfl⟩;have hb1:=hb.alloc hb.size (.cells #[.pointer (some ⟨Y.S.soc,0,none⟩), .int .i64 c] 165);have hq1:=HK.out _ hb1)|(go_at_call 168;refine (HS.out _ _ hb1 (Blk.new _ _ _)).mono ?_;rintro e w2 ⟨rfl,hT2,hC2⟩;have hq2:=And.intro ((hC2 ⟨Y.cg,c*4+2,none⟩ (.inr (.inl rfl))).trans hq1.1) ((hC2 ⟨Y.bd,3,none⟩ (.inl rfl)).trans hq1.2)))
 obtain ⟨Y1,⟨y1,y2⟩,h1,k1,n1⟩:=BdTo.from_ hb1 hT2
 have HST:=Lib.hid (And.intro k1 n1)
 clear hT2 hC2 hq2 hq1 k1 n1 c4 cr HK HS hb hb1
 have rc:=h1.runCells hc'
 obtain ⟨dg,dc,hv,hdc,e2,e4,e5,e6,e7,f4,f5,f6,f7,ne1,ne2⟩:=h1.entCell hent1
 rw [hrun1,y1,y2,hv] at rc
 obtain ⟨r2,r3,r_,r4,r5,r6,g2,g3⟩:=rc
 simp only [runV,ptr] at r2
 have hfinT:=h1.setFin hent1 er hv
 have HF:=Lib.hid hfinT
 have ek0:(0:Int)≤((b1.cor c).entry:Int):=by omega
 have ek1:((b1.cor c).entry:Int)<(b1.diary.length:Int):=by omega
 have HRUN:=Lib.hid (And.intro hrun1 hc');clear hrun1 hc'
 clear hfinT h1 r_ r4 e6 e7 f6 f7 hv
 generalize hen:(b1.cor c).entry=en at *
 generalize hkk:(b1.diary.getD en Ent.none_).kind=kd at *
 generalize hle:b1.diary.length=len at *
 clear hle
 have HEN:=Lib.hid (And.intro hen hkk);clear hen hkk
 have hyes:=assert_yes (Y.tk c p)
 have hyes1:=assert_yes (Y1.tk c p)
 by_cases hk2:kd=2
 ·have he1:(er == 0)=false:=by
   rw [beq_eq_false_iff_ne]
   exact fun q=>hno ⟨hk2,q⟩
  have hke:((kd:Int) == 2)=true:=by rw [beq_iff_eq];omega
  clear hno hk2
  go_wp2_with fail
  go_region
  go_wp2_with fail
  go_ret
  refine ⟨rfl,BdTo.step ⟨y1,y2⟩ HST.out.1 HST.out.2 ?_⟩
  obtain ⟨Y2,⟨z1,z2⟩,h2,k2,n2⟩:=HF.out
  have hi:=h2.setIdle (c:=c) HRUN.out.2
  rw [z2,y2] at hi
  have hen:=HEN.out.1
  clear HEN
  subst hen
  exact (BdTo.step ⟨z1,z2⟩ k2 n2 hi).fresh (Below.refl _ _).drew
 ·have hke:((kd:Int) == 2)=false:=by rw [beq_eq_false_iff_ne];omega
  clear hno hk2
  go_wp2_with fail
  go_region
  go_wp2_with fail
  go_ret
  refine ⟨rfl,BdTo.step ⟨y1,y2⟩ HST.out.1 HST.out.2 ?_⟩
  obtain ⟨Y2,⟨z1,z2⟩,h2,k2,n2⟩:=HF.out
  have hi:=h2.setIdle (c:=c) HRUN.out.2
  rw [z2,y2] at hi
  have hen:=HEN.out.1
  clear HEN
  subst hen
  exact (BdTo.step ⟨z1,z2⟩ k2 n2 hi).fresh (Below.refl _ _).drew
end
section
variable {w:World} {Y:Lay} {b:Bd}
set_option maxRecDepth 100000 in
theorem bStepT_endGot {c p:Nat} (hc:c<b.n) (hp:p<b.n) (hpc:p≠c) (hu:b.upb c=true) (hrun:(b.cor c).runs=some (.tak p)) (hent:(b.cor c).entry<b.diary.length) (ok:((b.cor c).tak p).Ok b.n (chanWords b.n b.ring)) (h0:((b.cor c).tak p).pc≠0) (hrng:0≤(b.sc.tch b.most c ((b.cor c).tak p).tch).2) (o:Tak × Bool × Int) (ho:((b.cor c).tak p).go (b.sc.tch b.most c ((b.cor c).tak p).tch).2=o) (hdn:o.2.1=true) (hyes:(b.diary.getD (b.cor c).entry Ent.none_).kind=2∧o.2.2=0) (hll:o.1.load.length≤1000) (h:BdAt w Y b):
  Calls Tryz.prog 22 #[ptr Y.bd, .int .i64 c] w fun e w'=>e= .returned (.int .i64 0)∧BdTo w Y b { (b.setSc (b.sc.tch b.most c ((b.cor c).tak p).tch).1).setCor c { b.cor c with tak:=upd (b.cor c).tak p o.1,runs:=none } with diary:=b.finT (b.cor c).entry o.2.2 o.1.gotR } w':=by
 have hR:=bReady_any c h
 have hr0:b.readyR c=0:=by unfold Bd.readyR;rw [if_pos (show b.has c from ⟨by omega,by omega⟩),if_pos (show b.up (c:Int).toNat from (upb_up b _).1 (by simpa using hu))]
 rw [hr0] at hR
 have hS:=fun u q (hb:Below w.heap.size w u) (hq:PortAt u Y.S q c)=>bTak_of hc hp hpc hu ok h0 hrng (h.fresh hb) hq
 rw [ho] at hS
 obtain ⟨g',dn,er⟩:=o
 simp only at hdn hS hyes hll ⊢
 subst hdn
 have hft:b.finT (b.cor c).entry er g'.gotR=b.diary.set (b.cor c).entry { b.diary.getD (b.cor c).entry Ent.none_ with fin:=b.now,err:=er,load:=nats g'.gotR.1,handle:=g'.gotR.2 }:=by unfold Bd.finT;simp only;rw [if_pos hyes];rfl
 rw [hft]
 clear hft
 have hk:∀u,Below w.heap.size w u→u.cell? ⟨Y.cg,c*4+2,none⟩=some (.iface 111 (.pointer (some ⟨Y.tk c p,0,none⟩)))∧u.cell? ⟨Y.bd,3,none⟩=some (.pointer (some ⟨Y.S.soc,0,none⟩)):=by
  intro u hb
  have:=(h.fresh hb).runCells hc
  rw [hrun] at this
  exact ⟨this.1,this.2.2.1⟩
 have c4:=(h.runCells hc).2.2.2.1
 have hc0:(0:Int)≤(c:Int):=by omega
 have hc1:(c:Int)<(b.n:Int):=by omega
 have cr:=(hk w (Below.refl _ _)).1
 have hin:=ifc_nil 111 (Y.tk c p)
 have hn:=ahead_tstep (Y.tk c p)
 have hm:=meth_tstep (Y.tk c p)
 have hb:=(Below.refl w.heap.size w).drew
 have HR:=Lib.hid hR
 have HS:=Lib.hid hS
 have HK:=Lib.hid hk
 generalize hB1:(b.setSc (b.sc.tch b.most c ((b.cor c).tak p).tch).1).setCor c { b.cor c with tak:=upd (b.cor c).tak p g' }=b1 at *
 have hfin:({ (b.setSc (b.sc.tch b.most c ((b.cor c).tak p).tch).1).setCor c { b.cor c with tak:=upd (b.cor c).tak p g',runs:=none } with diary:=b.diary.set (b.cor c).entry { b.diary.getD (b.cor c).entry Ent.none_ with fin:=b.now,err:=er,load:=nats g'.gotR.1,handle:=g'.gotR.2 } }:Bd)=({ b1 with diary:=b1.diary.set (b1.cor c).entry { b1.diary.getD (b1.cor c).entry Ent.none_ with fin:=b1.now,err:=er,load:=nats g'.gotR.1,handle:=g'.gotR.2 } }:Bd).setCor c { ({ b1 with diary:=b1.diary.set (b1.cor c).entry { b1.diary.getD (b1.cor c).entry Ent.none_ with fin:=b1.now,err:=er,load:=nats g'.gotR.1,handle:=g'.gotR.2 } }:Bd).cor c with runs:=none }:=by
  subst hB1
  have hcc:((b.setSc (b.sc.tch b.most c ((b.cor c).tak p).tch).1).setCor c { b.cor c with tak:=upd (b.cor c).tak p g' }).cor c= { b.cor c with tak:=upd (b.cor c).tak p g' }:=upd_same _ _ _
  simp only [hcc]
  simp only [Bd.setCor,Bd.setSc,upd_upd]
 rw [hfin]
 have hc':c<b1.n:=by subst hB1;exact hc
 have hlen:b1.diary.length=b.diary.length:=by subst hB1;rfl
 have hnow:b1.now=b.now:=by subst hB1;rfl
 have hkd:(b1.diary.getD (b1.cor c).entry Ent.none_).kind=(b.diary.getD (b.cor c).entry Ent.none_).kind:=by subst hB1;rw [show ((b.setSc (b.sc.tch b.most c ((b.cor c).tak p).tch).1).setCor c { b.cor c with tak:=upd (b.cor c).tak p g' }).cor c= { b.cor c with tak:=upd (b.cor c).tak p g' } from upd_same _ _ _];rfl
 rw [←hkd] at hyes
 have htk:(b1.cor c).tak p=g':=by subst hB1;rw [show ((b.setSc (b.sc.tch b.most c ((b.cor c).tak p).tch).1).setCor c { b.cor c with tak:=upd (b.cor c).tak p g' }).cor c= { b.cor c with tak:=upd (b.cor c).tak p g' } from upd_same _ _ _];exact upd_same _ _ _
 have hub:b1.upb c=true:=by subst hB1;unfold Bd.upb at hu ⊢;show (!((b.sc.tch b.most c ((b.cor c).tak p).tch).1.g.held.getD c false))=true;rw [tch_g];exact hu
 have hn1:b1.n=b.n:=by subst hB1;rfl
 have hent1:(b1.cor c).entry<b1.diary.length:=by subst hB1;rw [show ((b.setSc (b.sc.tch b.most c ((b.cor c).tak p).tch).1).setCor c { b.cor c with tak:=upd (b.cor c).tak p g' }).cor c= { b.cor c with tak:=upd (b.cor c).tak p g' } from upd_same _ _ _];exact hent
 have hrun1:(b1.cor c).runs=some (.tak p):=by subst hB1;rw [show ((b.setSc (b.sc.tch b.most c ((b.cor c).tak p).tch).1).setCor c { b.cor c with tak:=upd (b.cor c).tak p g' }).cor c= { b.cor c with tak:=upd (b.cor c).tak p g' } from upd_same _ _ _];exact hrun
 clear hR hS hk h hr0 hrun ok h0 hrng ho hB1 hfin hent hlen hnow hkd
 unfold ptr at *
 go_enter Tryz.func22,Tryz.ntmps22
 go_wp2_with fail
 refine HR.out.mono ?_
 rintro e w' ⟨rfl,rfl⟩
 go_wp2_with fail
 go_region_held3 (fun u=>u.cell? ⟨Y.cg,c*4+2,none⟩=some (.iface 111 (.pointer (some ⟨Y.tk c p,0,none⟩)))∧u.cell? ⟨Y.bd,3,none⟩=some (.pointer (some ⟨Y.S.soc,0,none⟩)))
  (first|exact HK.out _ hb|assumption)
  (first|(go_at_call 49;refine (ofCore_any Y.S c _).mono ?_;rintro e w1 ⟨rfl,rfl⟩;have hb1:=hb.alloc hb.size (.cells #[.pointer (some ⟨Y.S.soc,0,none⟩), .int .i64 c] 165);have hq1:=HK.out _ hb1)|(go_at_call 168;refine (HS.out _ _ hb1 (Blk.new _ _ _)).mono ?_;rintro e w2 ⟨rfl,hT2,hC2⟩;have hq2:=And.intro ((hC2 ⟨Y.cg,c*4+2,none⟩ (.inr (.inl rfl))).trans hq1.1) ((hC2 ⟨Y.bd,3,none⟩ (.inl rfl)).trans hq1.2)))
 obtain ⟨Y1,⟨y1,y2⟩,h1,k1,n1⟩:=BdTo.from_ hb1 hT2
 have HST:=Lib.hid (And.intro k1 n1)
 clear hT2 hC2 hq1 k1 n1 c4 cr HK HS hb hb1
 have rc:=h1.runCells hc'
 obtain ⟨dg,dc,hv,hdc,e2,e4,e5,e6,e7,f4,f5,f6,f7,ne1,ne2⟩:=h1.entCell hent1
 rw [hrun1,y1,y2,hv] at rc
 obtain ⟨r2,r3,r_,r4,r5,r6,g2,g3⟩:=rc
 simp only [runV,ptr] at r2
 have htk1:Y1.tk c p=Y.tk c p:=by
  have q1:=r2
  rw [hq2.1] at q1
  injection q1 with q1
  injection q1 with _ q1
  injection q1 with q1
  injection q1 with q1
  injection q1 with q1
  exact q1.symm
 rw [htk1] at r2
 obtain ⟨Y2,⟨z1,z2⟩,h2,k2,n2⟩:=h1.setFin hent1 er hv
 have hent2:(b1.cor c).entry<(b1.diary.set (b1.cor c).entry { b1.diary.getD (b1.cor c).entry Ent.none_ with fin:=b1.now,err:=er }).length:=by rw [List.length_set];exact hent1
 have v2:Y2.vd= .slice (some ⟨dg,0,none⟩) b1.diary.length dc:=by
  have q1:((w2.setCell ⟨dg,(b1.cor c).entry*8+4,none⟩ (.int .i64 b1.now)).setCell ⟨dg,(b1.cor c).entry*8+5,none⟩ (.int .i64 er)).cell? ⟨Y2.bd,5,none⟩=some Y2.vd:=h2.board.cell 5
  rw [z1,y1,World.cell?_setCell_other _ _ _ _ (by simp [Ne.symm ne1,y1 ▸ Ne.symm ne1]),World.cell?_setCell_other _ _ _ _ (by simp [Ne.symm ne1,y1 ▸ Ne.symm ne1]),r5] at q1
  injection q1 with q1
  exact q1.symm
 have htk2:Y2.tk c p=Y.tk c p:=by
  have q1:=(h2.runCells (c:=c) hc').1
  rw [z2,y2,World.cell?_setCell_other _ _ _ _ (by simp [y2 ▸ Ne.symm ne2]),World.cell?_setCell_other _ _ _ _ (by simp [y2 ▸ Ne.symm ne2]),r2] at q1
  rw [show ({ b1 with diary:=b1.diary.set (b1.cor c).entry { b1.diary.getD (b1.cor c).entry Ent.none_ with fin:=b1.now,err:=er } }:Bd).cor c=b1.cor c from rfl,hrun1] at q1
  injection q1 with q1
  injection q1 with _ q1
  injection q1 with q1
  injection q1 with q1
  injection q1 with q1
  exact q1.symm
 have hG:=fun u (hb:Below ((w2.setCell ⟨dg,(b1.cor c).entry*8+4,none⟩ (.int .i64 b1.now)).setCell ⟨dg,(b1.cor c).entry*8+5,none⟩ (.int .i64 er)).heap.size ((w2.setCell ⟨dg,(b1.cor c).entry*8+4,none⟩ (.int .i64 b1.now)).setCell ⟨dg,(b1.cor c).entry*8+5,none⟩ (.int .i64 er)) u)=>tGot_any (Y2.tk c p) (Y2.tt c p) (Y2.vtl c p) _ u ((h2.fresh hb).tak c p hc' (by show p<b1.n;rw [hn1];exact hp) hpc hub) (by show ((b1.cor c).tak p).load.length≤1000;rw [htk];exact hll)
 rw [show (({ b1 with diary:=b1.diary.set (b1.cor c).entry { b1.diary.getD (b1.cor c).entry Ent.none_ with fin:=b1.now,err:=er } }:Bd).cor c).tak p=g' from htk,htk2] at hG
 have hfacts:=fun u (hb:Below ((w2.setCell ⟨dg,(b1.cor c).entry*8+4,none⟩ (.int .i64 b1.now)).setCell ⟨dg,(b1.cor c).entry*8+5,none⟩ (.int .i64 er)).heap.size ((w2.setCell ⟨dg,(b1.cor c).entry*8+4,none⟩ (.int .i64 b1.now)).setCell ⟨dg,(b1.cor c).entry*8+5,none⟩ (.int .i64 er)) u)=>And.intro ((h2.fresh hb).entCell hent2) ((h2.fresh hb).runCells (c:=c) hc')
 have hlen2:(b1.diary.set (b1.cor c).entry { b1.diary.getD (b1.cor c).entry Ent.none_ with fin:=b1.now,err:=er }).length=b1.diary.length:=List.length_set
 have H2:=Lib.hid (And.intro h2 (And.intro k2 (And.intro n2 (And.intro z1 (And.intro z2 (And.intro v2 (And.intro hent2 (And.intro hlen2 (And.intro hfacts (And.intro htk2 hrun1))))))))))
 have HG:=Lib.hid hG
 have ek0:(0:Int)≤((b1.cor c).entry:Int):=by omega
 have ek1:((b1.cor c).entry:Int)<(b1.diary.length:Int):=by omega
 have HRUN:=Lib.hid (And.intro hrun1 hc');clear hrun1 hc'
 obtain ⟨hyk,hye⟩:=hyes
 rw [hyk] at e2
 subst hye
 clear h1 r_ r4 e6 e7 f6 f7 hv hq2 h2 k2 n2 v2 hent2 hlen2 hfacts hG htk htk2 hyk
 generalize hen:(b1.cor c).entry=en at *
 generalize hle:b1.diary.length=len at *
 have HEN:=Lib.hid (And.intro hen hle);clear hen hle
 have hyes:=assert_yes (Y.tk c p)
 go_wp2_with fail
 go_region
 go_wp2_with fail
 refine (HG.out _ (Below.refl _ _).drew).mono ?_
 rintro e w4 ⟨v4,rfl,hR4,ho4,hb4⟩
 have hb5:=(Below.refl _ ((w2.setCell ⟨dg,en*8+4,none⟩ (.int .i64 b1.now)).setCell ⟨dg,en*8+5,none⟩ (.int .i64 0))).drew.trans hb4
 obtain ⟨h2,k2,n2,z1,z2,v2,hent2,hlen2,hfacts,htk2,hrun1⟩:=H2.out
 obtain ⟨⟨dg',dc',hv',hdc',e2',e4',e5',e6,e7,f4',f5',f6,f7,ne1',ne2'⟩,s2,s3,s4,s5,s6,s7,s8,s9⟩:=hfacts w4 hb5
 have hset:=h2.setGot hb5 hent2 v4 _ hR4 ho4 g'.gotR.2 (by rw [v2,hlen2])
 rw [v2] at hv'
 injection hv' with hv1 hv2 hv3
 injection hv1 with hv1
 injection hv1 with hv1 _
 subst hv1
 rw [show ({ b1 with diary:=b1.diary.set en { b1.diary.getD en Ent.none_ with fin:=b1.now,err:=0 } }:Bd).cor c=b1.cor c from rfl,hrun1,z2,y2] at s2
 rw [z2,y2] at s8
 simp only [runV,ptr] at s2
 obtain ⟨A4,c4,hv4, -, -⟩:=Row.slice hR4
 subst hv4
 have HX:=Lib.hid (And.intro hset (And.intro k2 (And.intro n2 (And.intro z1 z2))))
 clear hset k2 n2 hfacts h2 hR4 ho4 hb4 hb5 z1 z2 v2 hent2 hlen2 hrun1 e2' e4' e5' f4' f5' s3 s4 s5 s6 s7 s9 htk2
 go_wp2_with fail
 go_ret
 refine ⟨rfl,BdTo.step ⟨y1,y2⟩ HST.out.1 HST.out.2 ?_⟩
 obtain ⟨hset,k2,n2,z1,z2⟩:=HX.out
 refine BdTo.step ⟨z1,z2⟩ k2 n2 ?_
 obtain ⟨Y3,⟨x1,x2⟩,h3,k3,n3⟩:=hset
 have hi:=h3.setIdle (c:=c) HRUN.out.2
 rw [x2,z2,y2] at hi
 have hen:=HEN.out.1
 have hfi:=BdTo.step ⟨x1,x2⟩ k3 n3 hi
 have hss:(b1.diary.set en { b1.diary.getD en Ent.none_ with fin:=b1.now,err:=0 }).set en { (b1.diary.set en { b1.diary.getD en Ent.none_ with fin:=b1.now,err:=0 }).getD en Ent.none_ with load:=nats g'.gotR.1,handle:=g'.gotR.2 }=b1.diary.set en { b1.diary.getD en Ent.none_ with fin:=b1.now,err:=0,load:=nats g'.gotR.1,handle:=g'.gotR.2 }:=by
  rw [List.set_set,getD_set_ent _ _ _ _ (by have:=HEN.out.2;omega),if_pos rfl]
 rw [hss] at hfi
 obtain ⟨hen,hle⟩:=HEN.out
 clear hss HEN HX HG H2 e7 f6 f7 e6 e4 e5 f4 f5 r5 r6 g2 g3 s2 s8
 subst hen
 exact hfi
end
section
variable {w:World} {Y:Lay} {b:Bd}
theorem nil_nne (w:World):(binOp .neq 69 .nilIface .nilIface).run Tryz.prog w= .ok (.bool false) w:=by kernel_rfl
theorem ifc_nne (t:Nat) (a:Nat) (w:World):(binOp .neq 69 (.iface t (.pointer (some ⟨a,0,none⟩))) .nilIface).run Tryz.prog w= .ok (.bool true) w:=by kernel_rfl
theorem nil_nil (w:World):(binOp .eql 69 .nilIface .nilIface).run Tryz.prog w= .ok (.bool true) w:=by kernel_rfl
set_option maxRecDepth 100000 in
theorem bStep_none {c:Nat} (hc:c<b.n) (hu:b.upb c=true) (hrun:(b.cor c).runs=none) (h:BdAt w Y b):
  Calls Tryz.prog 22 #[ptr Y.bd, .int .i64 c] w fun e w'=>e= .returned (.int .i64 13)∧w=w':=by
 have hR:=bReady_any c h
 have hr0:b.readyR c=0:=by unfold Bd.readyR;rw [if_pos (show b.has c from ⟨by omega,by omega⟩),if_pos (show b.up (c:Int).toNat from (upb_up b _).1 (by simpa using hu))]
 rw [hr0] at hR
 have hrc:=h.runCells hc
 rw [hrun] at hrc
 have cr:w.cell? ⟨Y.cg,c*4+2,none⟩=some .nilIface:=hrc.1
 have c4:=hrc.2.2.2.1
 have hc0:(0:Int)≤(c:Int):=by omega
 have hc1:(c:Int)<(b.n:Int):=by omega
 have hin:=nil_nil
 have HR:=Lib.hid hR
 clear hR h hr0 hrun hrc
 unfold ptr at *
 go_enter Tryz.func22,Tryz.ntmps22
 go_wp2_with fail
 refine HR.out.mono ?_
 rintro e w' ⟨rfl,rfl⟩
 go_wp2_with fail
 go_ret
 exact ⟨rfl,rfl⟩
set_option maxRecDepth 100000 in
theorem bStep_not {c:Int} (hr:b.readyR c≠0) (h:BdAt w Y b):
  Calls Tryz.prog 22 #[ptr Y.bd, .int .i64 c] w fun e w'=>e= .returned (.int .i64 (b.readyR c))∧w=w':=by
 have hR:=bReady_any c h
 have e1:(b.readyR c != 0)=true:=by simpa using hr
 generalize b.readyR c=r at *
 have HR:=Lib.hid hR
 clear hR h hr
 unfold ptr at *
 go_enter Tryz.func22,Tryz.ntmps22
 go_wp2_with fail
 refine HR.out.mono ?_
 rintro e w' ⟨rfl,rfl⟩
 go_wp2_with fail
 go_ret
 exact ⟨rfl,rfl⟩
theorem bStep_any {P:Nat→List Rec} {C:Nat→Option Rec} (hI:BI b P C) {c:Nat} (hc:c<b.n) (hu:b.upb c=true) (h:BdAt w Y b):
  Calls Tryz.prog 22 #[ptr Y.bd, .int .i64 c] w fun e w'=>e= .returned (.int .i64 (b.step c).2)∧BdTo w Y b (b.step c).1 w':=by
 have hran:=hI.ran c hc
 unfold Bd.Ran at hran
 cases hrun:(b.cor c).runs with
 | none=>
  have e1:b.step c=(b,13):=by unfold Bd.step;simp only [hrun]
  rw [e1]
  refine (bStep_none hc hu hrun h).mono ?_
  rintro e w' ⟨he,rfl⟩
  exact ⟨he,BdTo.refl h⟩
 | some r=>
  rw [hrun] at hran
  cases r with
  | giv p=>
   obtain ⟨_,hp,hpc,hent,x,hx,hxp⟩:=hran
   have hm:=hI.mach c p hc hp hpc hu
   obtain ⟨G,hj,hd⟩:=hI.ch c p hc hp (Ne.symm hpc)
   have h0:=(hd.rung x hx hxp).2.1
   generalize ho:((b.cor c).giv p).go (b.sc.tch b.most c ((b.cor c).giv p).tch).2=o
   by_cases hdn:o.2.1=true
   ·have e1:b.step c=({ (b.setSc (b.sc.tch b.most c ((b.cor c).giv p).tch).1).setCor c { b.cor c with giv:=upd (b.cor c).giv p o.1,runs:=none } with diary:=b.fin (b.cor c).entry o.2.2 },0):=by unfold Bd.step;simp only [hrun,ho];rw [if_pos hdn]
    rw [e1]
    exact bStepG_end hc hp hpc hu hrun hent hm.giv h0 o ho hdn h
   ·have e1:b.step c=((b.setSc (b.sc.tch b.most c ((b.cor c).giv p).tch).1).setCor c { b.cor c with giv:=upd (b.cor c).giv p o.1 },0):=by unfold Bd.step;simp only [hrun,ho];rw [if_neg hdn]
    rw [e1]
    exact bStepG_stay hc hp hpc hu hrun hm.giv h0 o ho (by simpa using hdn) h
  | tak p=>
   obtain ⟨_,hp,hpc,hent,x,hx,hxp⟩:=hran
   have hm:=hI.mach c p hc hp hpc hu
   obtain ⟨G,hj,hd⟩:=hI.ch p c hp hc hpc
   have h0:=(hd.runt x hx hxp).2.1
   have hrng:=tch_rng hI hc ((b.cor c).tak p).tch
   have hs:=Tak.go_step ((b.cor c).tak p) (b.sc.tch b.most c ((b.cor c).tak p).tch).2 h0 hm.tak.pc
   have hok':=hm.tak.go hs hrng.1 hrng.2
   generalize ho:((b.cor c).tak p).go (b.sc.tch b.most c ((b.cor c).tak p).tch).2=o at *
   by_cases hdn:o.2.1=true
   ·have e1:b.step c=({ (b.setSc (b.sc.tch b.most c ((b.cor c).tak p).tch).1).setCor c { b.cor c with tak:=upd (b.cor c).tak p o.1,runs:=none } with diary:=b.finT (b.cor c).entry o.2.2 o.1.gotR },0):=by unfold Bd.step;simp only [hrun,ho];rw [if_pos hdn]
    rw [e1]
    by_cases hy:(b.diary.getD (b.cor c).entry Ent.none_).kind=2∧o.2.2=0
    ·exact bStepT_endGot hc hp hpc hu hrun hent hm.tak h0 hrng.1 o ho hdn hy (by have:=hok'.len;omega) h
    ·exact bStepT_endNo hc hp hpc hu hrun hent hm.tak h0 hrng.1 o ho hdn hy h
   ·have e1:b.step c=((b.setSc (b.sc.tch b.most c ((b.cor c).tak p).tch).1).setCor c { b.cor c with tak:=upd (b.cor c).tak p o.1 },0):=by unfold Bd.step;simp only [hrun,ho];rw [if_neg hdn]
    rw [e1]
    exact bStepT_stay hc hp hpc hu hrun hm.tak h0 hrng.1 o ho (by simpa using hdn) h
set_option maxRecDepth 100000 in
theorem bBusy_any {c:Nat} (hc:c<b.n) (h:BdAt w Y b):
  Calls Tryz.prog 12 #[ptr Y.bd, .int .i64 c] w fun e w'=>e= .returned (.bool (b.cor c).runs.isSome)∧w=w':=by
 have hH:=bHas_any (c:Int) h
 rw [decide_eq_true (show b.has c from ⟨by omega,by omega⟩)] at hH
 have hrc:=h.runCells hc
 have c4:=hrc.2.2.2.1
 have cr:=hrc.1
 have hc0:(0:Int)≤(c:Int):=by omega
 have hc1:(c:Int)<(b.n:Int):=by omega
 have HH:=Lib.hid hH
 clear hH h hrc
 cases hrun:(b.cor c).runs with
 | none=>
  rw [hrun] at cr
  replace cr:w.cell? ⟨Y.cg,c*4+2,none⟩=some .nilIface:=cr
  have hin:=nil_nne
  clear hrun
  unfold ptr at *
  go_enter Tryz.func12,Tryz.ntmps12
  go_wp2_with fail
  refine HH.out.mono ?_
  rintro e w' ⟨rfl,rfl⟩
  go_wp2_with fail
  go_ret
  exact ⟨rfl,rfl⟩
 | some r=>
  rw [hrun] at cr
  cases r with
  | giv p=>
   replace cr:w.cell? ⟨Y.cg,c*4+2,none⟩=some (.iface 109 (.pointer (some ⟨Y.gb c p,0,none⟩))):=cr
   have hin:=ifc_nne 109 (Y.gb c p)
   clear hrun
   unfold ptr at *
   go_enter Tryz.func12,Tryz.ntmps12
   go_wp2_with fail
   refine HH.out.mono ?_
   rintro e w' ⟨rfl,rfl⟩
   go_wp2_with fail
   go_ret
   exact ⟨rfl,rfl⟩
  | tak p=>
   replace cr:w.cell? ⟨Y.cg,c*4+2,none⟩=some (.iface 111 (.pointer (some ⟨Y.tk c p,0,none⟩))):=cr
   have hin:=ifc_nne 111 (Y.tk c p)
   clear hrun
   unfold ptr at *
   go_enter Tryz.func12,Tryz.ntmps12
   go_wp2_with fail
   refine HH.out.mono ?_
   rintro e w' ⟨rfl,rfl⟩
   go_wp2_with fail
   go_ret
   exact ⟨rfl,rfl⟩
end
end Go.Proofs.YtaaffebnajjfhaaGreatDoor.T
