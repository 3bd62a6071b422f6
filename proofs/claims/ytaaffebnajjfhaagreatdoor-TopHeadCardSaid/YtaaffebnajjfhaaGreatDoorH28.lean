/- Texts of this proof, merged: Brd10, Brd16, Frs1, Frs2, Brd19. -/
import Derived.Test.YtaaffebnajjfhaaGreatDoorH26
namespace Go.Proofs.YtaaffebnajjfhaaGreatDoor.T
set_option linter.unusedVariables false
set_option linter.unusedSimpArgs false
set_option linter.unusedSectionVars false
open Go.RowKit
section
variable {w w':World} {Y:Lay} {b b':Bd}
theorem send_err {g:Giv} {xs:List Int} (h:(g.send xs).2≠0):(g.send xs).1=g:=by
 unfold Giv.send at *
 split
 ·rfl
 ·split
  ·rfl
  ·split
   ·rfl
   ·simp_all
theorem recv_err {g:Tak} (h:g.recv.2≠0):g.recv.1=g:=by
 unfold Tak.recv at *
 split
 ·rfl
 ·simp_all
theorem release_err {g:Tak} {x:Int} (h:(g.release x).2≠0):(g.release x).1=g:=by
 unfold Tak.release at *
 split
 ·rfl
 ·split
  ·rename_i h1 h2
   unfold Grants.dropR at *
   simp only
   split
   ·rename_i h3
    rw [if_pos h3] at h2
    exact absurd rfl h2
   ·rfl
  ·simp_all
theorem BdAt.gsent (h:BdAt w Y b) {c p:Nat} (hc:c<b.n) (hp:p<b.n) (hpc:p≠c) (hu:b.upb c=true) {g':Giv} (hs:SendTo w (Y.gb c p) (Y.vf c p) (Y.vo c p) (Y.vl c p) g' w'):
  BdSame w Y b (b.setCor c { b.cor c with giv:=upd (b.cor c).giv p g' }) w':=by
 obtain ⟨tag,o⟩:=h.own
 obtain ⟨vl',h1,h2,h3⟩:=hs
 have hob:∀k,GivF (Y.gb c p) (Y.vf c p) (Y.vo c p) vl' k→GivF (Y.gb c p) (Y.vf c p) (Y.vo c p) (Y.vl c p) k∨w.heap.size≤k:=by
  rintro k (hk|hk|hk|hk)
  ·exact .inl (.inl hk)
  ·exact .inl (.inr (.inl hk))
  ·exact .inl (.inr (.inr (.inl hk)))
  ·exact (h3 k hk).imp (fun q=> .inr (.inr (.inr q))) id
 have hdis:∀k,SocAll Y.S b.n Y.vs k→ ¬GivF (Y.gb c p) (Y.vf c p) (Y.vo c p) (Y.vl c p) k:=fun k q r=>by
  have e1:=o.soc k q
  rw [o.giv c p hc hp hpc hu k r] at e1
  cases e1
 have hm:Moved w w' (SocAll Y.S b.n Y.vs) (SocAll Y.S b.n Y.vs) (GivF (Y.gb c p) (Y.vf c p) (Y.vo c p) (Y.vl c p)) (GivF (Y.gb c p) (Y.vf c p) (Y.vo c p) vl'):=by
  refine ⟨h2.mono (fun k _ q=> .inr (.inl q)),fun k q=> .inl q,hob,fun k q r=> ?_⟩
  rcases hob k r with e|e
  ·exact hdis k q e
  ·have:=h.lt k (.inl q);omega
 exact h.gmovedS hc hp hpc hu (s':=b.sc) rfl (h.soc.keepAll h2 (fun k q r=>hdis k q (.inl r))) h1 hm
theorem BdAt.ttook (h:BdAt w Y b) {c p:Nat} (hc:c<b.n) (hp:p<b.n) (hpc:p≠c) (hu:b.upb c=true) {g':Tak} (hs:TakTo w (Y.tk c p) (Y.tt c p) (Y.vtl c p) g' w'):
  BdSame w Y b (b.setCor c { b.cor c with tak:=upd (b.cor c).tak p g' }) w':=by
 obtain ⟨tag,o⟩:=h.own
 obtain ⟨vl',h1,h2,h3⟩:=hs
 have hob:∀k,TakF (Y.tk c p) (Y.tt c p) vl' k→TakF (Y.tk c p) (Y.tt c p) (Y.vtl c p) k∨w.heap.size≤k:=by
  rintro k (hk|hk|hk)
  ·exact .inl (.inl hk)
  ·exact .inl (.inr (.inl hk))
  ·exact (h3 k hk).imp (fun q=> .inr (.inr q)) id
 have hdis:∀k,SocAll Y.S b.n Y.vs k→ ¬TakF (Y.tk c p) (Y.tt c p) (Y.vtl c p) k:=fun k q r=>by
  have e1:=o.soc k q
  rw [o.tak c p hc hp hpc hu k r] at e1
  cases e1
 have hm:Moved w w' (SocAll Y.S b.n Y.vs) (SocAll Y.S b.n Y.vs) (TakF (Y.tk c p) (Y.tt c p) (Y.vtl c p)) (TakF (Y.tk c p) (Y.tt c p) vl'):=by
  refine ⟨h2.mono (fun k _ q=> .inr q),fun k q=> .inl q,hob,fun k q r=> ?_⟩
  rcases hob k r with e|e
  ·exact hdis k q e
  ·have:=h.lt k (.inl q);omega
 exact h.tmovedS hc hp hpc hu (s':=b.sc) rfl (h.soc.keepAll h2 (fun k q r=>hdis k q r)) h1 hm
theorem BdN.step {w1 w2:World} {Y1:Lay} {b1 b2:Bd} (y:Y1.bd=Y.bd∧Y1.cg=Y.cg) (k1:Keep (BdF Y b) w w1) (n1:∀k,BdF Y1 b1 k→BdF Y b k∨w.heap.size≤k) (g:BdN w.heap.size w1 Y1 b1 b2 w2):BdTo w Y b b2 w2:=by
 obtain ⟨Y2,g0,g1,g2,g3⟩:=g
 refine ⟨Y2,⟨g0.1.trans y.1,g0.2.trans y.2⟩,g1,k1.trans g2 (fun k hk q=> ?_),fun k hk=> ?_⟩
 ·rcases n1 k q with e|e
  ·exact e
  ·omega
 ·rcases g3 k hk with e|e
  ·exact n1 k e
  ·exact .inr e
theorem BdAt.pushed {B:Nat} (hB:2≤B) (h:BdAt w Y b) {c:Nat} (hc:c<b.n) (r:Run) (y:Ent) (l:Value) (hl:RowI w l y.load) (hlo:∀k,l.ownBlock=some k→B≤k∧ ¬BdF Y b k) (hBw:B≤w.heap.size)
  {wb wc:World} {v':Value} (hb:Below w.heap.size ((w.setCell ⟨Y.cg,c*4+2,none⟩ (runV Y c (some r))).setCell ⟨Y.cg,c*4+3,none⟩ (.int .i64 b.diary.length)) wb)
  (hR:RowZ wc 82 8 v' (b.diary.length+1) (diaCells Y.dl b.diary++entCells y l)) (hg:wb.grownBy wc Y.vd.ownBlock) (hat:v'.ownBlock=Y.vd.ownBlock∨v'.ownBlock=some wb.heap.size):
  BdN B w Y b { b.setCor c { b.cor c with runs:=some r,entry:=b.diary.length } with diary:=b.diary ++ [y] } (wc.setCell ⟨Y.bd,5,none⟩ v'):=by
 obtain ⟨cs,hcs,hcc⟩:=h.cores
 have hne:=h.ne_cg
 generalize hW2:(w.setCell ⟨Y.cg,c*4+2,none⟩ (runV Y c (some r))).setCell ⟨Y.cg,c*4+3,none⟩ (.int .i64 b.diary.length)=W2 at *
 have hk2:Keep (BrdW Y) w W2:=by
  subst hW2
  exact (Keep.setCell (p:=⟨Y.cg,c*4+2,none⟩) (Keep.refl _ w) (fun _=> .inr (.inl rfl)) _).setCell (p:=⟨Y.cg,c*4+3,none⟩) (fun _=> .inr (.inl rfl)) _
 have hs2:W2.heap.size=w.heap.size:=by subst hW2;simp
 have hb2:Below W2.heap.size W2 wb:=by rw [hs2];exact hb
 have hkb:Keep (BrdW Y) W2 wb:=Keep.ofFresh hb2 (B:=0)
 have hkg:Keep (BrdW Y) wb wc:=(Keep.grown hg).mono (fun k _ q=> .inr (.inr q))
 have hW:∀k,BrdW Y k→BdF Y b k:=fun k q=> .inr (.inr (q.elim .inl (fun q=>q.elim (fun q=> .inr (.inl q)) (fun q=> .inr (.inr (.inr (.inl q)))))))
 have hbd2:=(h.board.far (p:=⟨Y.cg,c*4+2,none⟩) hne (runV Y c (some r))).far (p:=⟨Y.cg,c*4+3,none⟩) hne (.int .i64 b.diary.length)
 rw [hW2] at hbd2
 have hbdb:=hbd2.keep (Keep.ofFresh hb2 (B:=0) (F:=fun _=>False)) (fun q=>q)
 have hbdc:=hbdb.keep (Keep.grown hg) (fun e=>h.diary.ne h.board (by decide) e)
 have hcg2:Blk W2 Y.cg 71 ((cs.set (c*4+2) (runV Y c (some r))).set (c*4+3) (.int .i64 b.diary.length)):=by subst hW2;exact (hcs.set _ _).set _ _
 have hcgb:=hcg2.keep (Keep.ofFresh hb2 (B:=0) (F:=fun _=>False)) (fun q=>q)
 have hcgc:=hcgb.keep (Keep.grown hg) (fun e=>h.diary.ne hcs (by decide) e)
 rw [diaCells_push] at hR
 have hlen:∀j,j<4→c*4+j<cs.length:=fun j hj=>by
  have:=(hcc c hc).2.2.2
  have:=(List.getElem?_eq_some_iff.1 this).1
  omega
 have hkc:Keep (BrdW Y) w wc:=(hk2.trans' hkb).trans' hkg
 have hrow:∀v xs,RowI w v xs→(∀k,v.ownBlock=some k→ ¬BrdW Y k)→RowI (wc.setCell ⟨Y.bd,5,none⟩ v') v xs:=fun v xs hv hn=>Row.far (Row.keep hv hkc hn) hbdc (by decide) _ _
 have hnW:∀v xs,RowI w v xs→∀k,v.ownBlock=some k→ ¬BrdW Y k:=fun v xs hv k hk q=>by
  rcases q with q|q|q
  ·subst q;exact Row.ne hv h.board (by decide) hk
  ·subst q;exact Row.ne hv hcs (by decide) hk
  ·obtain ⟨cur,hcur⟩:=h.diary.typed k q
   exact Row.ne hv hcur (by decide) hk
 have hcr:∀i,(({ b.setCor c { b.cor c with runs:=some r,entry:=b.diary.length } with diary:=b.diary ++ [y] }:Bd).cor i).giv=(b.cor i).giv∧(({ b.setCor c { b.cor c with runs:=some r,entry:=b.diary.length } with diary:=b.diary ++ [y] }:Bd).cor i).tak=(b.cor i).tak:=fun i=>by
  show (upd b.cor c _ i).giv=_∧(upd b.cor c _ i).tak=_
  by_cases e:i=c
  ·subst e;rw [upd_same];exact ⟨rfl,rfl⟩
  ·rw [upd_other _ _ _ _ e];exact ⟨rfl,rfl⟩
 refine h.brdN hB (vd':=v') (dl':=upd Y.dl b.diary.length l) (b':= { b.setCor c { b.cor c with runs:=some r,entry:=b.diary.length } with diary:=b.diary ++ [y] }) rfl rfl rfl rfl hcr (hkc.setCell (p:=⟨Y.bd,5,none⟩) (fun _=> .inl rfl) _) (hbdc.set 5 _) ⟨_,hcgc.far (p:=⟨Y.bd,5,none⟩) (Ne.symm hne) _,fun i hi=> ?_⟩ ?_ (fun i hi=> ?_) (fun k hk=> ?_)
 ·have hx:=hcc i hi
  have hl2:=hlen 2 (by omega)
  have hl3:=hlen 3 (by omega)
  show _∧_∧_=some (runV Y i (upd b.cor c _ i).runs)∧_=some (Value.int .i64 ((upd b.cor c _ i).entry:Nat))
  by_cases e:i=c
  ·subst e
   rw [upd_same]
   refine ⟨by rw [List.getElem?_set_ne (by omega),List.getElem?_set_ne (by omega)];exact hx.1,by rw [List.getElem?_set_ne (by omega),List.getElem?_set_ne (by omega)];exact hx.2.1, ?_, ?_⟩
   ·rw [List.getElem?_set_ne (by omega),List.getElem?_set_self hl2]
   ·rw [List.getElem?_set_self (by rw [List.length_set];exact hl3)]
  ·rw [upd_other _ _ _ _ e]
   exact ⟨by rw [List.getElem?_set_ne (by omega),List.getElem?_set_ne (by omega)];exact hx.1,by rw [List.getElem?_set_ne (by omega),List.getElem?_set_ne (by omega)];exact hx.2.1,by rw [List.getElem?_set_ne (by omega),List.getElem?_set_ne (by omega)];exact hx.2.2.1,by rw [List.getElem?_set_ne (by omega),List.getElem?_set_ne (by omega)];exact hx.2.2.2⟩
 ·show RowZ _ 82 8 v' (b.diary ++ [y]).length _
  rw [List.length_append,List.length_cons,List.length_nil]
  exact hR.far hbdc (by decide) 5 _
 ·show RowI _ (upd Y.dl b.diary.length l i) ((b.diary ++ [y]).getD i Ent.none_).load
  have hi:i<b.diary.length+1:=by simpa using hi
  by_cases e:i=b.diary.length
  ·subst e
   rw [upd_same]
   have:(b.diary ++ [y]).getD b.diary.length Ent.none_=y:=by simp [List.getD]
   rw [this]
   exact hrow _ _ hl (hnW _ _ hl)
  ·rw [upd_other _ _ _ _ e,getD_push _ _ _ _ (by omega)]
   exact hrow _ _ (h.loads i (by omega)) (hnW _ _ (h.loads i (by omega)))
 ·rcases hk with hk|⟨i,hi,hk⟩
  ·rcases hat with e|e
   ·rw [e] at hk;exact .inl (h.own_loads k (.inl hk))
   ·rw [e] at hk
    have e2:wb.heap.size=k:=by injection hk
    have h1:=hb2.size
    exact .inr ⟨by omega,fun q=>by have:=h.lt k q;omega⟩
  ·have hi:i<b.diary.length+1:=by simpa using hi
   by_cases e:i=b.diary.length
   ·subst e
    rw [upd_same] at hk
    exact .inr (hlo k hk)
   ·rw [upd_other _ _ _ _ e] at hk
    exact .inl (h.own_loads k (.inr ⟨i,by omega,hk⟩))
end
section
variable {w w':World} {Y:Lay} {b b':Bd}
def Lay.re (Y:Lay) (c:Nat) (vs':Nat→Value) (vgc vtc:Value) (gbc:Nat→Nat) (vfc voc vlc:Nat→Value) (tkc ttc:Nat→Nat) (vtlc:Nat→Value):Lay:=
 { Y with vs:=vs',vg:=upd Y.vg c vgc,vt:=upd Y.vt c vtc,gb:=upd Y.gb c gbc,vf:=upd Y.vf c vfc,vo:=upd Y.vo c voc,vl:=upd Y.vl c vlc,tk:=upd Y.tk c tkc,tt:=upd Y.tt c ttc,vtl:=upd Y.vtl c vtlc }
structure CoreAt (w:World) (n ring c:Nat) (K:Cor) (vgc vtc:Value) (gbc:Nat→Nat) (vfc voc vlc:Nat→Value) (tkc ttc:Nat→Nat) (vtlc:Nat→Value):Prop where
 givs:RowZ w 109 1 vgc n ((List.range n).map fun p=>if p=c then .pointer none else ptr (gbc p))
 taks:RowZ w 111 1 vtc n ((List.range n).map fun p=>if p=c then .pointer none else ptr (tkc p))
 giv:∀p,p<n→p≠c→GivAt w (gbc p) (vfc p) (voc p) (vlc p) (K.giv p)
 tak:∀p,p<n→p≠c→TakAt w (tkc p) (ttc p) (vtlc p) (K.tak p)
structure CoreOwn (B n c:Nat) (tg:Nat→Tag) (vgc vtc:Value) (gbc:Nat→Nat) (vfc voc vlc:Nat→Value) (tkc ttc:Nat→Nat) (vtlc:Nat→Value):Prop where
 rows:∀k,(vgc.ownBlock=some k∨vtc.ownBlock=some k)→B≤k∧tg k= .brd
 giv:∀p,p<n→p≠c→∀k,GivF (gbc p) (vfc p) (voc p) (vlc p) k→B≤k∧tg k= .giv c p
 tak:∀p,p<n→p≠c→∀k,TakF (tkc p) (ttc p) (vtlc p) k→B≤k∧tg k= .tak c p
theorem BdAt.recore (h:BdAt w Y b) {c:Nat} (hc:c<b.n) {s':Sc} {K:Cor} {vs':Nat→Value} {vgc vtc:Value} {gbc:Nat→Nat} {vfc voc vlc:Nat→Value} {tkc ttc:Nat→Nat} {vtlc:Nat→Value}
  (hK:K.runs=none∧K.entry=0) (hup:∀i,i≠c→s'.g.held.getD i false=b.sc.g.held.getD i false) (hs:SocAt w' Y.S b.n (chanWords b.n b.ring) b.most vs' s'.m s'.q s'.g)
  (hk:Keep (fun k=>SocF Y.S b.n Y.vs k∨k=Y.cg) w w') (tg:Nat→Tag) (hso:∀k,SocF Y.S b.n vs' k→SocF Y.S b.n Y.vs k∨(w.heap.size≤k∧tg k= .soc))
  (hcores:∀cs,Blk w Y.cg 71 cs→c*4+3<cs.length→∃cs',Blk w' Y.cg 71 cs'∧cs'[c*4]? = some (if s'.g.held.getD c false=false then vgc else .slice none 0 0)∧cs'[c*4+1]? = some (if s'.g.held.getD c false=false then vtc else .slice none 0 0)∧cs'[c*4+2]? = some .nilIface∧cs'[c*4+3]? = some (.int .i64 (0:Nat))∧∀j,(j<c*4∨c*4+4≤j)→cs'[j]? = cs[j]?)
  (hco:s'.g.held.getD c false=false→CoreAt w' b.n b.ring c K vgc vtc gbc vfc voc vlc tkc ttc vtlc∧CoreOwn w.heap.size b.n c tg vgc vtc gbc vfc voc vlc tkc ttc vtlc):
  BdTo w Y b ((b.setSc s').setCor c K) w':=by
 obtain ⟨tag,o⟩:=h.own
 have hupb:∀i,i≠c→((b.setSc s').setCor c K).upb i=b.upb i:=fun i hi=>by
  show (!(s'.g.held.getD i false))=(!(b.sc.g.held.getD i false))
  rw [hup i hi]
 have hupc:((b.setSc s').setCor c K).upb c=true→s'.g.held.getD c false=false:=fun q=>by
  have:(!(s'.g.held.getD c false))=true:=q
  simpa using this
 have hcor:∀i,i≠c→((b.setSc s').setCor c K).cor i=b.cor i:=fun i hi=>upd_other _ _ _ _ hi
 have hcc:((b.setSc s').setCor c K).cor c=K:=upd_same _ _ _
 have hF:∀k,(SocF Y.S b.n Y.vs k∨k=Y.cg)→tag k= .soc∨k=Y.cg:=fun k q=>q.imp (fun q=>o.soc k (.inr (.inr (.inr (.inr (.inr q)))))) id
 have htcg:tag Y.cg= .brd:=o.brd _ (.inr (.inl rfl))
 have hcgne:∀ {k:Nat} {ty:TypeId} {cs:List Value},Blk w k ty cs→ty≠71→k≠Y.cg:=by
  intro k ty cs hb t1 e
  obtain ⟨cs0,hcs0,_⟩:=h.cores
  subst e
  exact t1 (hb.same hcs0).1
 have hB:∀k,BrdF Y b k→k≠Y.cg→ ¬(SocF Y.S b.n Y.vs k∨k=Y.cg):=fun k q hne r=>by
  rcases hF k r with e|e
  ·rw [o.brd k q] at e;cases e
  ·exact hne e
 have hgl0:0<w.heap.size∧1<w.heap.size:=by
  have h2:w.cell? ⟨0,5,none⟩=some (.int .i64 0):=h.glob.ahead.1
  have h3:=h.glob.tab 0 (by decide)
  exact ⟨World.block_lt_of_cell? w _ h2,World.block_lt_of_cell? w _ h3⟩
 have hsa:∀k,SocAll Y.S b.n vs' k→SocAll Y.S b.n Y.vs k∨(w.heap.size≤k∧tg k= .soc):=fun k q=>by
  rcases q with q|q|q|q|q|q
  ·exact .inl (.inl q)
  ·exact .inl (.inr (.inl q))
  ·exact .inl (.inr (.inr (.inl q)))
  ·exact .inl (.inr (.inr (.inr (.inl q))))
  ·exact .inl (.inr (.inr (.inr (.inr (.inl q)))))
  ·exact (hso k q).imp (fun q=> .inr (.inr (.inr (.inr (.inr q))))) id
 obtain ⟨cs,hcs,hcc2⟩:=h.cores
 have hlen:c*4+3<cs.length:=by
  have:=(hcc2 c hc).2.2.2
  exact (List.getElem?_eq_some_iff.1 this).1
 obtain ⟨cs',hcs',d0,d1,d2,d3,dj⟩:=hcores cs hcs hlen
 have hbr:∀k,BrdF (Y.re c vs' vgc vtc gbc vfc voc vlc tkc ttc vtlc) ((b.setSc s').setCor c K) k→BrdF Y b k∨(w.heap.size≤k∧tg k= .brd):=by
  intro k q
  rcases q with q|q|⟨i,hi,hui,q⟩|q|q
  ·exact .inl (.inl q)
  ·exact .inl (.inr (.inl q))
  ·by_cases e:i=c
   ·subst e
    obtain ⟨_,ow⟩:=hco (hupc hui)
    have q2:vgc.ownBlock=some k∨vtc.ownBlock=some k:=by
     simp only [Lay.re,upd_same] at q;exact q
    exact .inr (ow.rows k q2)
   ·rw [hupb i e] at hui
    simp only [Lay.re,upd_other _ _ _ _ e] at q
    exact .inl (.inr (.inr (.inl ⟨i,hi,hui,q⟩)))
  ·exact .inl (.inr (.inr (.inr (.inl q))))
  ·exact .inl (.inr (.inr (.inr (.inr q))))
 have hgv:∀i p,i<b.n→p<b.n→p≠i→((b.setSc s').setCor c K).upb i=true→∀k,GivF ((Y.re c vs' vgc vtc gbc vfc voc vlc tkc ttc vtlc).gb i p) ((Y.re c vs' vgc vtc gbc vfc voc vlc tkc ttc vtlc).vf i p) ((Y.re c vs' vgc vtc gbc vfc voc vlc tkc ttc vtlc).vo i p) ((Y.re c vs' vgc vtc gbc vfc voc vlc tkc ttc vtlc).vl i p) k→
   (b.upb i=true∧GivF (Y.gb i p) (Y.vf i p) (Y.vo i p) (Y.vl i p) k)∨(w.heap.size≤k∧tg k= .giv i p):=by
  intro i p hi hp hpi hui k q
  by_cases e:i=c
  ·subst e
   obtain ⟨_,ow⟩:=hco (hupc hui)
   simp only [Lay.re,upd_same] at q
   exact .inr (ow.giv p hp hpi k q)
  ·rw [hupb i e] at hui
   simp only [Lay.re,upd_other _ _ _ _ e] at q
   exact .inl ⟨hui,q⟩
 have htk:∀i p,i<b.n→p<b.n→p≠i→((b.setSc s').setCor c K).upb i=true→∀k,TakF ((Y.re c vs' vgc vtc gbc vfc voc vlc tkc ttc vtlc).tk i p) ((Y.re c vs' vgc vtc gbc vfc voc vlc tkc ttc vtlc).tt i p) ((Y.re c vs' vgc vtc gbc vfc voc vlc tkc ttc vtlc).vtl i p) k→
   (b.upb i=true∧TakF (Y.tk i p) (Y.tt i p) (Y.vtl i p) k)∨(w.heap.size≤k∧tg k= .tak i p):=by
  intro i p hi hp hpi hui k q
  by_cases e:i=c
  ·subst e
   obtain ⟨_,ow⟩:=hco (hupc hui)
   simp only [Lay.re,upd_same] at q
   exact .inr (ow.tak p hp hpi k q)
  ·rw [hupb i e] at hui
   simp only [Lay.re,upd_other _ _ _ _ e] at q
   exact .inl ⟨hui,q⟩
 refine ⟨Y.re c vs' vgc vtc gbc vfc voc vlc tkc ttc vtlc,⟨rfl,rfl⟩,⟨?_,⟨cs',hcs',fun i hi=> ?_⟩,fun i hi hui=> ?_,fun i hi hui=> ?_,fun i q hi hq hqi hui=> ?_,fun i q hi hq hqi hui=> ?_,hs, ?_,fun i hi=> ?_, ?_, ?_⟩, ?_,fun k hk=> ?_⟩
 ·exact h.board.keep hk (hB _ (.inl rfl) h.ne_cg)
 ·by_cases e:i=c
  ·subst e
   rw [hcc,hK.1,hK.2]
   have e2:∀v:Value,(if ((b.setSc s').setCor i K).upb i=true then v else Value.slice none 0 0)=if s'.g.held.getD i false=false then v else Value.slice none 0 0:=fun v=>by
    show (if (!(s'.g.held.getD i false))=true then v else Value.slice none 0 0)=_
    cases s'.g.held.getD i false<;>rfl
   simp only [Lay.re,upd_same]
   rw [e2,e2]
   exact ⟨d0,d1,d2,d3⟩
  ·have q:=hcc2 i hi
   rw [hupb i e,hcor i e]
   simp only [Lay.re,upd_other _ _ _ _ e]
   refine ⟨(dj _ (by omega)).trans q.1,(dj _ (by omega)).trans q.2.1, ?_,(dj _ (by omega)).trans q.2.2.2⟩
   rw [dj _ (by omega),q.2.2.1]
   cases (b.cor i).runs with
   | none=>rfl
   | some r=>cases r<;>simp [runV,upd_other _ _ _ _ e]
 ·by_cases e:i=c
  ·subst e
   obtain ⟨ca,_⟩:=hco (hupc hui)
   have:=ca.givs
   simp only [Lay.re,upd_same,givPtrs]
   exact this
  ·rw [hupb i e] at hui
   simp only [Lay.re,upd_other _ _ _ _ e,givPtrs]
   refine (h.givs i hi hui).keep hk (fun k q=>hB k (.inr (.inr (.inl ⟨i,hi,hui, .inl q⟩))) ?_)
   obtain ⟨cur,hcur⟩:=(h.givs i hi hui).typed k q
   exact hcgne hcur (by decide)
 ·by_cases e:i=c
  ·subst e
   obtain ⟨ca,_⟩:=hco (hupc hui)
   have:=ca.taks
   simp only [Lay.re,upd_same,takPtrs]
   exact this
  ·rw [hupb i e] at hui
   simp only [Lay.re,upd_other _ _ _ _ e,takPtrs]
   refine (h.taks i hi hui).keep hk (fun k q=>hB k (.inr (.inr (.inl ⟨i,hi,hui, .inr q⟩))) ?_)
   obtain ⟨cur,hcur⟩:=(h.taks i hi hui).typed k q
   exact hcgne hcur (by decide)
 ·by_cases e:i=c
  ·subst e
   obtain ⟨ca,_⟩:=hco (hupc hui)
   rw [hcc]
   simp only [Lay.re,upd_same]
   exact ca.giv q hq hqi
  ·rw [hupb i e] at hui
   rw [hcor i e]
   simp only [Lay.re,upd_other _ _ _ _ e]
   refine (h.giv i q hi hq hqi hui).keep hk (fun k r s=> ?_)
   have e1:=o.giv i q hi hq hqi hui k r
   rcases hF k s with e2|e2
   ·rw [e2] at e1;cases e1
   ·rw [e2,htcg] at e1;cases e1
 ·by_cases e:i=c
  ·subst e
   obtain ⟨ca,_⟩:=hco (hupc hui)
   rw [hcc]
   simp only [Lay.re,upd_same]
   exact ca.tak q hq hqi
  ·rw [hupb i e] at hui
   rw [hcor i e]
   simp only [Lay.re,upd_other _ _ _ _ e]
   refine (h.tak i q hi hq hqi hui).keep hk (fun k r s=> ?_)
   have e1:=o.tak i q hi hq hqi hui k r
   rcases hF k s with e2|e2
   ·rw [e2] at e1;cases e1
   ·rw [e2,htcg] at e1;cases e1
 ·refine h.diary.keep hk (fun k q=>hB k (.inr (.inr (.inr (.inl q)))) ?_)
  obtain ⟨cur,hcur⟩:=h.diary.typed k q
  exact hcgne hcur (by decide)
 ·refine Row.keep (h.loads i hi) hk (fun k q=>hB k (.inr (.inr (.inr (.inr ⟨i,hi,q⟩)))) ?_)
  obtain ⟨cur,hcur⟩:=Row.typed (h.loads i hi) k q
  exact hcgne hcur (by decide)
 ·refine ⟨fun k=>if k<w.heap.size then tag k else tg k,fun k hk=> ?_,fun i q hi hq hqi hui k hk=> ?_,fun i q hi hq hqi hui k hk=> ?_,fun k hk=> ?_, ?_⟩
  ·rcases hsa k hk with e|e
   ·rw [if_pos (h.lt k (.inl e)),o.soc k e]
   ·rw [if_neg (by omega),e.2]
  ·rcases hgv i q hi hq hqi hui k hk with e|e
   ·rw [if_pos (h.lt k (.inr (.inl ⟨i,q,hi,hq,hqi,e.1, .inl e.2⟩))),o.giv i q hi hq hqi e.1 k e.2]
   ·rw [if_neg (by omega),e.2]
  ·rcases htk i q hi hq hqi hui k hk with e|e
   ·rw [if_pos (h.lt k (.inr (.inl ⟨i,q,hi,hq,hqi,e.1, .inr e.2⟩))),o.tak i q hi hq hqi e.1 k e.2]
   ·rw [if_neg (by omega),e.2]
  ·rcases hbr k hk with e|e
   ·rw [if_pos (h.lt k (.inr (.inr e))),o.brd k e]
   ·rw [if_neg (by omega),e.2]
  ·rw [if_pos hgl0.1,if_pos hgl0.2];exact o.glb
 ·refine h.glob.keep hk (fun q=> ?_) (fun q=> ?_)
  ·rcases hF 0 q with e|e
   ·rw [o.glb.1] at e;cases e
   ·rw [←e,o.glb.1] at htcg;cases htcg
  ·rcases hF 1 q with e|e
   ·rw [o.glb.2] at e;cases e
   ·rw [←e,o.glb.2] at htcg;cases htcg
 ·refine hk.mono (fun k _ q=> ?_)
  rcases q with q|q
  ·exact .inl (.inr (.inr (.inr (.inr (.inr q)))))
  ·exact .inr (.inr (.inr (.inl q)))
 ·rcases hk with hk|⟨i,q,hi,hq,hqi,hui,hk|hk⟩|hk
  ·exact (hsa k hk).imp .inl And.left
  ·rcases hgv i q hi hq hqi hui k hk with e|e
   ·exact .inl (.inr (.inl ⟨i,q,hi,hq,hqi,e.1, .inl e.2⟩))
   ·exact .inr e.1
  ·rcases htk i q hi hq hqi hui k hk with e|e
   ·exact .inl (.inr (.inl ⟨i,q,hi,hq,hqi,e.1, .inr e.2⟩))
   ·exact .inr e.1
  ·exact (hbr k hk).imp (fun q=> .inr (.inr q)) And.left
theorem BdAt.socOn (h:BdAt w Y b) {m':Nat→Nat} {q':Nat→List (Nat × Nat)} (hT:SocTo w Y.S b.n (chanWords b.n b.ring) b.most Y.vs m' q' b.sc.g w'):BdTo w Y b (b.setSc { b.sc with m:=m',q:=q' }) w':=by
 obtain ⟨tag,o⟩:=h.own
 obtain ⟨vs',h1,h2,h3⟩:=hT
 have hF:∀k,SocF Y.S b.n Y.vs k→tag k= .soc:=fun k q=>o.soc k (.inr (.inr (.inr (.inr (.inr q)))))
 have hN:∀k,tag k≠ .soc→ ¬SocF Y.S b.n Y.vs k:=fun k q r=>q (hF k r)
 have hsa:∀k,SocAll Y.S b.n vs' k→SocAll Y.S b.n Y.vs k∨w.heap.size≤k:=fun k q=>by
  rcases q with q|q|q|q|q|q
  ·exact .inl (.inl q)
  ·exact .inl (.inr (.inl q))
  ·exact .inl (.inr (.inr (.inl q)))
  ·exact .inl (.inr (.inr (.inr (.inl q))))
  ·exact .inl (.inr (.inr (.inr (.inr (.inl q)))))
  ·exact (h3 k q).imp (fun q=> .inr (.inr (.inr (.inr (.inr q))))) id
 have hB:∀k,BrdF Y b k→ ¬SocF Y.S b.n Y.vs k:=fun k q=>hN k (by rw [o.brd k q];simp)
 have hgl0:0<w.heap.size∧1<w.heap.size:=by
  have h2:w.cell? ⟨0,5,none⟩=some (.int .i64 0):=h.glob.ahead.1
  have h3:=h.glob.tab 0 (by decide)
  exact ⟨World.block_lt_of_cell? w _ h2,World.block_lt_of_cell? w _ h3⟩
 obtain ⟨cs,hcs,hcc2⟩:=h.cores
 refine ⟨{ Y with vs:=vs' },⟨rfl,rfl⟩,⟨h.board.keep h2 (hB _ (.inl rfl)),⟨cs,hcs.keep h2 (hB _ (.inr (.inl rfl))),fun i hi=> ?_⟩,fun i hi hui=> ?_,fun i hi hui=> ?_,fun i q hi hq hqi hui=> ?_,fun i q hi hq hqi hui=> ?_,h1, ?_,fun i hi=> ?_, ?_, ?_⟩, ?_,fun k hk=> ?_⟩
 ·have q:=hcc2 i hi
  refine ⟨q.1,q.2.1, ?_,q.2.2.2⟩
  rw [q.2.2.1]
  show some (runV Y i (b.cor i).runs)=some (runV _ i (b.cor i).runs)
  cases (b.cor i).runs with
  | none=>rfl
  | some r=>cases r<;>rfl
 ·exact (h.givs i hi hui).keep h2 (fun k q=>hB k (.inr (.inr (.inl ⟨i,hi,hui, .inl q⟩))))
 ·exact (h.taks i hi hui).keep h2 (fun k q=>hB k (.inr (.inr (.inl ⟨i,hi,hui, .inr q⟩))))
 ·exact (h.giv i q hi hq hqi hui).keep h2 (fun k r=>hN k (by rw [o.giv i q hi hq hqi hui k r];simp))
 ·exact (h.tak i q hi hq hqi hui).keep h2 (fun k r=>hN k (by rw [o.tak i q hi hq hqi hui k r];simp))
 ·exact h.diary.keep h2 (fun k q=>hB k (.inr (.inr (.inr (.inl q)))))
 ·exact Row.keep (h.loads i hi) h2 (fun k q=>hB k (.inr (.inr (.inr (.inr ⟨i,hi,q⟩)))))
 ·refine ⟨fun k=>if k<w.heap.size then tag k else .soc,fun k hk=> ?_,fun i q hi hq hqi hui k hk=> ?_,fun i q hi hq hqi hui k hk=> ?_,fun k hk=> ?_, ?_⟩
  ·rcases hsa k hk with e|e
   ·rw [if_pos (h.lt k (.inl e)),o.soc k e]
   ·rw [if_neg (by omega)]
  ·rw [if_pos (h.lt k (.inr (.inl ⟨i,q,hi,hq,hqi,hui, .inl hk⟩))),o.giv i q hi hq hqi hui k hk]
  ·rw [if_pos (h.lt k (.inr (.inl ⟨i,q,hi,hq,hqi,hui, .inr hk⟩))),o.tak i q hi hq hqi hui k hk]
  ·rw [if_pos (h.lt k (.inr (.inr hk))),o.brd k hk]
  ·rw [if_pos hgl0.1,if_pos hgl0.2];exact o.glb
 ·refine h.glob.keep h2 (hN 0 (by rw [o.glb.1];simp)) (hN 1 (by rw [o.glb.2];simp))
 ·exact h2.mono (fun k _ q=> .inl (.inr (.inr (.inr (.inr (.inr q))))))
 ·rcases hk with hk|⟨i,q,hi,hq,hqi,hui,hk⟩|hk
  ·exact (hsa k hk).imp .inl id
  ·exact .inl (.inr (.inl ⟨i,q,hi,hq,hqi,hui,hk⟩))
  ·exact .inl (.inr (.inr hk))
end
def tzI (x:Int):Int:=IntKind.u64.wrap (bits BinOp.and IntKind.u64 x (IntKind.u64.wrap (-x))*285870213051353865) / 288230376151711744
def tzR (x:Int):Int:=if x=0 then 64 else deb.getD (tzI x).toNat 0
theorem wrapU (y:Int):0≤IntKind.u64.wrap y∧IntKind.u64.wrap y<18446744073709551616:=by
 unfold IntKind.wrap
 simp only [IntKind.signed,IntKind.bits]
 constructor<;>(first|(simp;omega)|omega)
theorem tzI_rng (x:Int):0≤tzI x∧tzI x<64:=by
 unfold tzI
 have:=wrapU (bits BinOp.and IntKind.u64 x (IntKind.u64.wrap (-x))*285870213051353865)
 omega
theorem deb_rng:∀j,0≤deb.getD j 0∧deb.getD j 0≤63:=by
 intro j
 by_cases h:j<64
 ·have:∀j,j<64→0≤deb.getD j 0∧deb.getD j 0≤63:=by decide
  exact this j h
 ·rw [List.getD_eq_getElem?_getD,List.getElem?_eq_none (by show 64≤j;omega)]
  decide
set_option maxRecDepth 100000 in
theorem tz_any (x:Int) (w:World) (hg:Glob w):
  Calls Tryz.prog 120 #[.int .u64 x] w fun e w'=>e= .returned (.int .i64 (tzR x))∧w=w':=by
 by_cases h0:x=0
 ·subst h0
  go_enter Tryz.func120,Tryz.ntmps120
  go_wp2_with fail
  go_ret
  exact ⟨rfl,rfl⟩
 ·have e0:(x == 0)=false:=by rw [beq_eq_false_iff_ne];exact h0
  have hr:=tzI_rng x
  have hd:=deb_rng (tzI x).toNat
  have hc:=hg.tab (tzI x).toNat (by omega)
  have hR:tzR x=deb.getD (tzI x).toNat 0:=by unfold tzR;rw [if_neg h0]
  rw [hR]
  generalize deb.getD (tzI x).toNat 0=d at *
  obtain ⟨hr0,hr1⟩:=hr
  obtain ⟨hd0,hd1⟩:=hd
  unfold tzI at *
  clear hR h0 hg
  go_enter Tryz.func120,Tryz.ntmps120
  go_wp2_with fail
  go_ret
  exact ⟨rfl,rfl⟩
set_option maxRecDepth 100000 in
theorem log_no1 (x:Int) (hx:x<1) (w:World):
  Calls Tryz.prog 76 #[.int .i64 x] w fun e w'=>e= .returned (.tuple #[.int .i64 0, .bool false])∧w=w':=by
 go_enter Tryz.func76,Tryz.ntmps76
 go_wp2_with fail
 go_ret2
 exact ⟨rfl,rfl⟩
set_option maxRecDepth 100000 in
theorem log_no2 (x:Int) (hx:1≤x) (hx2:x<9223372036854775808) (hn:bits BinOp.and .i64 x (x-1)≠0) (w:World):
  Calls Tryz.prog 76 #[.int .i64 x] w fun e w'=>e= .returned (.tuple #[.int .i64 0, .bool false])∧w=w':=by
 have e1:(bits BinOp.and .i64 x (x-1) != 0)=true:=by simpa using hn
 go_enter Tryz.func76,Tryz.ntmps76
 go_wp2_with fail
 go_ret2
 exact ⟨rfl,rfl⟩
set_option maxRecDepth 100000 in
theorem log_yes (x:Int) (hx:1≤x) (hx2:x<9223372036854775808) (hn:bits BinOp.and .i64 x (x-1)=0) (w:World) (hg:Glob w):
  Calls Tryz.prog 76 #[.int .i64 x] w fun e w'=>e= .returned (.tuple #[.int .i64 (tzR x), .bool true])∧w=w':=by
 have e1:(bits BinOp.and .i64 x (x-1) != 0)=false:=by simpa using hn
 have HT:=Lib.hid (tz_any x w hg)
 clear hg
 generalize tzR x=k at *
 go_enter Tryz.func76,Tryz.ntmps76
 go_wp2_with fail
 refine HT.out.mono ?_
 rintro e w' ⟨rfl,rfl⟩
 go_wp2_with fail
 go_ret2
 exact ⟨rfl,rfl⟩
def ringB (x:Int):Bool:=x == 2||x == 4||x == 8||x == 16||x == 32||x == 64
theorem ringB_iff (x:Int):ringB x=true ↔ (x=2∨x=4∨x=8∨x=16∨x=32∨x=64):=by
 unfold ringB;simp [or_assoc]
theorem small_bits:∀k:Nat,k<65→1≤k→((bits BinOp.and .i64 (k:Int) ((k:Int)-1)=0∧0<tzR k) ↔ ringB (k:Int)=true):=by decide
theorem ringB_of {x:Int} (h1:1≤x) (h2:x≤64):(bits BinOp.and .i64 x (x-1)=0∧0<tzR x) ↔ ringB x=true:=by
 obtain ⟨k,rfl⟩:=Int.eq_ofNat_of_zero_le (show 0≤x by omega)
 exact small_bits k (by omega) (by omega)
set_option maxRecDepth 100000 in
theorem ringed_any (x:Int) (hx2:x<9223372036854775808) (w:World) (hg:Glob w):
  Calls Tryz.prog 37 #[.int .i64 x] w fun e w'=>e= .returned (.bool (ringB x))∧w=w':=by
 by_cases h1:1≤x
 ·by_cases hb:bits BinOp.and .i64 x (x-1)=0
  ·have HT:=Lib.hid (log_yes x h1 hx2 hb w hg)
   have hr:ringB x=(decide (0<tzR x)&&decide (x≤64)):=by
    by_cases h64:x≤64
    ·have:=ringB_of h1 h64
     by_cases ht:0<tzR x
     ·rw [this.1 ⟨hb,ht⟩];simp [ht,h64]
     ·have h5:ringB x=false:=by
       cases e:ringB x with
       | false=>rfl
       | true=>exact absurd (this.2 e).2 ht
      rw [h5];simp [ht]
    ·have h5:ringB x=false:=by
      cases e:ringB x with
      | false=>rfl
      | true=>have:=(ringB_iff x).1 e;omega
     rw [h5];simp [h64]
   rw [hr]
   clear hg hr hb
   generalize tzR x=k at *
   by_cases hk:0<k
   ·have e1:decide (0<k)=true:=by simpa using hk
    by_cases hx:x≤64
    ·have e2:decide (x≤64)=true:=by simpa using hx
     rw [e1,e2]
     go_enter Tryz.func37,Tryz.ntmps37
     go_wp2_with fail
     refine HT.out.mono ?_
     rintro e w' ⟨rfl,rfl⟩
     go_wp2_with fail
     go_ret
     exact ⟨rfl,rfl⟩
    ·have e2:decide (x≤64)=false:=by simpa using hx
     rw [e1,e2]
     go_enter Tryz.func37,Tryz.ntmps37
     go_wp2_with fail
     refine HT.out.mono ?_
     rintro e w' ⟨rfl,rfl⟩
     go_wp2_with fail
     go_ret
     exact ⟨rfl,rfl⟩
   ·have e1:decide (0<k)=false:=by simpa using hk
    rw [e1]
    go_enter Tryz.func37,Tryz.ntmps37
    go_wp2_with fail
    refine HT.out.mono ?_
    rintro e w' ⟨rfl,rfl⟩
    go_wp2_with fail
    go_ret
    exact ⟨rfl,rfl⟩
  ·have HT:=Lib.hid (log_no2 x h1 hx2 hb w)
   have h5:ringB x=false:=by
    cases e:ringB x with
    | false=>rfl
    | true=>exact absurd ((ringB_of h1 (by have:=(ringB_iff x).1 e;omega)).2 e).1 hb
   rw [h5]
   clear h5 hb hg
   go_enter Tryz.func37,Tryz.ntmps37
   go_wp2_with fail
   refine HT.out.mono ?_
   rintro e w' ⟨rfl,rfl⟩
   go_wp2_with fail
   go_ret
   exact ⟨rfl,rfl⟩
 ·have HT:=Lib.hid (log_no1 x (by omega) w)
  have h5:ringB x=false:=by
   cases e:ringB x with
   | false=>rfl
   | true=>have:=(ringB_iff x).1 e;omega
  rw [h5]
  clear h5 hg
  go_enter Tryz.func37,Tryz.ntmps37
  go_wp2_with fail
  refine HT.out.mono ?_
  rintro e w' ⟨rfl,rfl⟩
  go_wp2_with fail
  go_ret
  exact ⟨rfl,rfl⟩
set_option maxRecDepth 100000 in
theorem size_any (x:Int) (hx2:x<9223372036854775808) (w:World) (hg:Glob w):
  Calls Tryz.prog 43 #[.int .i64 x] w fun e w'=>e= .returned (.int .i64 (if ringB x=true then 4+11*x else 0))∧w=w':=by
 have HT:=Lib.hid (ringed_any x hx2 w hg)
 have h8:=hg.ahead.2.2.2
 by_cases hr:ringB x=true
 ·rw [if_pos hr]
  have hx:=(ringB_iff x).1 hr
  have hx3:2≤x∧x≤64:=by omega
  obtain ⟨hx4,hx5⟩:=hx3
  clear hx
  rw [hr] at HT
  clear hr hg
  go_enter Tryz.func43,Tryz.ntmps43
  go_wp2_with fail
  refine HT.out.mono ?_
  rintro e w' ⟨rfl,rfl⟩
  go_wp2_with fail
  go_ret
  exact ⟨rfl,rfl⟩
 ·rw [if_neg hr]
  have hr:ringB x=false:=by simpa using hr
  rw [hr] at HT
  clear hr hg
  go_enter Tryz.func43,Tryz.ntmps43
  go_wp2_with fail
  refine HT.out.mono ?_
  rintro e w' ⟨rfl,rfl⟩
  go_wp2_with fail
  go_ret
  exact ⟨rfl,rfl⟩
def rightB (n r m:Int):Bool:=decide (2≤n)&&decide (n≤8)&&ringB r&&decide (1≤m)&&decide (m≤16)
def plotV (n r m:Int):Value:= .agg #[.int .i64 n, .int .i64 r, .int .i64 m]
theorem plot_box (n r m:Int) (w:World) (hg:Glob w):∃w1,w1=w.alloc (.cells #[.int .i64 n, .int .i64 r, .int .i64 m] 23)∧Below w.heap.size w w1∧Blk w1 w.heap.size 23 [.int .i64 n, .int .i64 r, .int .i64 m]∧Glob w1∧w1.heap.size=w.heap.size+1:=
 ⟨_,rfl,(Below.refl _ _).alloc (Nat.le_refl _) _,Blk.new _ _ _,hg.fresh ((Below.refl _ _).alloc (Nat.le_refl _) _),by simp⟩
set_option maxRecDepth 100000 in
theorem right_any (n r m:Int) (hr2:r<9223372036854775808) (w:World) (hg:Glob w):
  Calls Tryz.prog 17 #[plotV n r m] w fun e w'=>e= .returned (.bool (rightB n r m))∧Below w.heap.size w w':=by
 obtain ⟨w1,hw1,hb1,hk1,hg1, -⟩:=plot_box n r m w hg
 have HW:=Lib.hid hw1
 have HT:=Lib.hid (ringed_any r hr2 w1 hg1)
 have HB:=Lib.hid hb1
 have p0:=hk1.cell 0
 have p1:=hk1.cell 1
 have p2:=hk1.cell 2
 simp only [List.getElem?_cons_zero,List.getElem?_cons_succ] at p0 p1 p2
 unfold rightB plotV
 generalize ringB r=rb at *
 clear hw1 hb1 hk1 hg1 hg
 by_cases h1:2≤n
 ·by_cases h2:n≤8
  ·cases rb with
   | true=>
    by_cases h3:1≤m
    ·have e:(decide (2≤n)&&decide (n≤8)&&true&&decide (1≤m)&&decide (m≤16))=decide (m≤16):=by simp [h1,h2,h3]
     rw [e]
     go_enter Tryz.func17,Tryz.ntmps17
     go_wp2_with fail
     rw [←HW.out]
     go_wp2_with fail
     refine HT.out.mono ?_
     rintro e w' ⟨rfl,rfl⟩
     go_wp2_with fail
     go_ret
     exact ⟨rfl,HB.out⟩
    ·have e:(decide (2≤n)&&decide (n≤8)&&true&&decide (1≤m)&&decide (m≤16))=false:=by simp [h3]
     rw [e]
     go_enter Tryz.func17,Tryz.ntmps17
     go_wp2_with fail
     rw [←HW.out]
     go_wp2_with fail
     refine HT.out.mono ?_
     rintro e w' ⟨rfl,rfl⟩
     go_wp2_with fail
     go_ret
     exact ⟨rfl,HB.out⟩
   | false=>
    have e:(decide (2≤n)&&decide (n≤8)&&false&&decide (1≤m)&&decide (m≤16))=false:=by simp
    rw [e]
    go_enter Tryz.func17,Tryz.ntmps17
    go_wp2_with fail
    rw [←HW.out]
    go_wp2_with fail
    refine HT.out.mono ?_
    rintro e w' ⟨rfl,rfl⟩
    go_wp2_with fail
    go_ret
    exact ⟨rfl,HB.out⟩
  ·have e:(decide (2≤n)&&decide (n≤8)&&rb&&decide (1≤m)&&decide (m≤16))=false:=by simp [h2]
   rw [e]
   go_enter Tryz.func17,Tryz.ntmps17
   go_wp2_with fail
   rw [←HW.out]
   go_wp2_with fail
   go_ret
   exact ⟨rfl,HB.out⟩
 ·have e:(decide (2≤n)&&decide (n≤8)&&rb&&decide (1≤m)&&decide (m≤16))=false:=by simp [h1]
  rw [e]
  go_enter Tryz.func17,Tryz.ntmps17
  go_wp2_with fail
  rw [←HW.out]
  go_wp2_with fail
  go_ret
  exact ⟨rfl,HB.out⟩
section
variable {w w' w3 w4:World} {Y:Lay} {b b':Bd} {n ring c B:Nat} {K:Cor} {vgc vtc:Value} {gbc:Nat→Nat} {vfc voc vlc:Nat→Value} {tkc ttc:Nat→Nat} {vtlc:Nat→Value} {tg:Nat→Tag}
theorem CoreAt.keep {F:Nat→Prop} (h:CoreAt w n ring c K vgc vtc gbc vfc voc vlc tkc ttc vtlc) (o:CoreOwn B n c tg vgc vtc gbc vfc voc vlc tkc ttc vtlc) (hk:Keep F w w') (hF:∀k,B≤k→ ¬F k):CoreAt w' n ring c K vgc vtc gbc vfc voc vlc tkc ttc vtlc:=
 ⟨h.givs.keep hk (fun k q=>hF k (o.rows k (.inl q)).1),h.taks.keep hk (fun k q=>hF k (o.rows k (.inr q)).1),
  fun p hp hpc=>(h.giv p hp hpc).keep hk (fun k q=>hF k (o.giv p hp hpc k q).1),fun p hp hpc=>(h.tak p hp hpc).keep hk (fun k q=>hF k (o.tak p hp hpc k q).1)⟩
theorem CoreOwn.mono {B':Nat} {tg':Nat→Tag} (o:CoreOwn B n c tg vgc vtc gbc vfc voc vlc tkc ttc vtlc) (hB:B'≤B) (ht:∀k,B≤k→tg' k=tg k):CoreOwn B' n c tg' vgc vtc gbc vfc voc vlc tkc ttc vtlc:=
 ⟨fun k q=>⟨Nat.le_trans hB (o.rows k q).1,(ht k (o.rows k q).1).trans (o.rows k q).2⟩,fun p hp hpc k q=>⟨Nat.le_trans hB (o.giv p hp hpc k q).1,(ht k (o.giv p hp hpc k q).1).trans (o.giv p hp hpc k q).2⟩,
  fun p hp hpc k q=>⟨Nat.le_trans hB (o.tak p hp hpc k q).1,(ht k (o.tak p hp hpc k q).1).trans (o.tak p hp hpc k q).2⟩⟩
theorem BdAt.relaid (h:BdAt w Y b) (hc:c<b.n) {m':Nat→Nat} {q':Nat→List (Nat × Nat)} {g':Gates.Gt} (hK:K.runs=none∧K.entry=0) (hup:∀i,i≠c→g'.held.getD i false=b.sc.g.held.getD i false)
  (hT:SocTo w Y.S b.n (chanWords b.n b.ring) b.most Y.vs m' q' g' w3) (hb:Below w3.heap.size w3 w4) (tg:Nat→Tag)
  (hco:g'.held.getD c false=false→CoreAt w4 b.n b.ring c K vgc vtc gbc vfc voc vlc tkc ttc vtlc∧CoreOwn w3.heap.size b.n c tg vgc vtc gbc vfc voc vlc tkc ttc vtlc)
  (A0 A1:Value) (h0:A0=if g'.held.getD c false=false then vgc else .slice none 0 0) (h1:A1=if g'.held.getD c false=false then vtc else .slice none 0 0):
  BdTo w Y b ((b.setSc ⟨m',q',g'⟩).setCor c K) ((((w4.setCell ⟨Y.cg,c*4,none⟩ A0).setCell ⟨Y.cg,c*4+1,none⟩ A1).setCell ⟨Y.cg,c*4+2,none⟩ .nilIface).setCell ⟨Y.cg,c*4+3,none⟩ (.int .i64 (0:Nat))):=by
 classical
 obtain ⟨vs',hs3,k3,n3⟩:=hT
 have hcgs:Y.cg<w.heap.size:=by obtain ⟨cs,hcs,_⟩:=h.cores;exact hcs.lt
 obtain ⟨tag,o⟩:=h.own
 have htcg:tag Y.cg= .brd:=o.brd _ (.inr (.inl rfl))
 have hF:∀k,SocF Y.S b.n Y.vs k→tag k= .soc:=fun k q=>o.soc k (.inr (.inr (.inr (.inr (.inr q)))))
 have hcgF: ¬SocF Y.S b.n Y.vs Y.cg:=fun q=>by have:=hF _ q;rw [htcg] at this;cases this
 have hlt3:∀k,SocF Y.S b.n vs' k→k<w3.heap.size:=fun k q=>hs3.lt k (.inr (.inr (.inr (.inr (.inr q)))))
 have hsa:∀k,SocAll Y.S b.n vs' k→k≠Y.cg:=fun k q e=>by
  subst e
  have hS:SocAll Y.S b.n Y.vs Y.cg→False:=fun r=>by have:=o.soc _ r;rw [htcg] at this;cases this
  rcases q with q|q|q|q|q|q
  ·exact hS (.inl q)
  ·exact hS (.inr (.inl q))
  ·exact hS (.inr (.inr (.inl q)))
  ·exact hS (.inr (.inr (.inr (.inl q))))
  ·exact hS (.inr (.inr (.inr (.inr (.inl q)))))
  ·rcases n3 _ q with e|e
   ·exact hcgF e
   ·omega
 have k34:∀F:Nat→Prop,Keep F w3 w4:=fun F=>Keep.ofFresh hb (B:=0)
 generalize hw5:(((w4.setCell ⟨Y.cg,c*4,none⟩ A0).setCell ⟨Y.cg,c*4+1,none⟩ A1).setCell ⟨Y.cg,c*4+2,none⟩ .nilIface).setCell ⟨Y.cg,c*4+3,none⟩ (.int .i64 (0:Nat))=w5
 have k45:Keep (fun k=>k=Y.cg) w4 w5:=by
  subst hw5
  exact ((((Keep.refl (fun k=>k=Y.cg) w4).setCell (p:=⟨Y.cg,c*4,none⟩) (fun _=>rfl) _).setCell (p:=⟨Y.cg,c*4+1,none⟩) (fun _=>rfl) _).setCell (p:=⟨Y.cg,c*4+2,none⟩) (fun _=>rfl) _).setCell (p:=⟨Y.cg,c*4+3,none⟩) (fun _=>rfl) _
 refine h.recore hc (s':=⟨m',q',g'⟩) (vs':=vs') (vgc:=vgc) (vtc:=vtc) (gbc:=gbc) (vfc:=vfc) (voc:=voc) (vlc:=vlc) (tkc:=tkc) (ttc:=ttc) (vtlc:=vtlc) hK hup ((hs3.keepAll (k34 (fun _=>False)) (fun _ _ q=>q)).keepAll k45 hsa) ?_ (fun k=>if k<w3.heap.size then .soc else tg k) (fun k q=> ?_) ?_ (fun hu=> ?_)
 ·have a1:Keep (fun k=>SocF Y.S b.n Y.vs k∨k=Y.cg) w w4:=(k3.mono (fun k _ q=> .inl q)).trans' (k34 _)
  exact a1.trans' (k45.mono (fun k _ q=> .inr q))
 ·rcases n3 k q with e|e
  ·exact .inl e
  ·exact .inr ⟨e,by rw [if_pos (hlt3 k q)]⟩
 ·intro cs hcs hlen
  have hcs4:=(hcs.keep k3 hcgF).keep (k34 (fun _=>False)) (fun q=>q)
  refine ⟨(((cs.set (c*4) A0).set (c*4+1) A1).set (c*4+2) .nilIface).set (c*4+3) (.int .i64 (0:Nat)), ?_, ?_, ?_, ?_, ?_,fun j hj=> ?_⟩
  ·subst hw5
   exact (((hcs4.set _ _).set _ _).set _ _).set _ _
  ·rw [List.getElem?_set_ne (by omega),List.getElem?_set_ne (by omega),List.getElem?_set_ne (by omega),List.getElem?_set_self (by omega),h0]
  ·rw [List.getElem?_set_ne (by omega),List.getElem?_set_ne (by omega),List.getElem?_set_self (by simp;omega),h1]
  ·rw [List.getElem?_set_ne (by omega),List.getElem?_set_self (by simp;omega)]
  ·rw [List.getElem?_set_self (by simp;omega)]
  ·rw [List.getElem?_set_ne (by omega),List.getElem?_set_ne (by omega),List.getElem?_set_ne (by omega),List.getElem?_set_ne (by omega)]
 ·obtain ⟨ca,ow⟩:=hco hu
  have hs:=k3.size
  exact ⟨ca.keep ow k45 (fun k q e=>by omega),ow.mono hs (fun k q=>by rw [if_neg (by omega)])⟩
end
end Go.Proofs.YtaaffebnajjfhaaGreatDoor.T
