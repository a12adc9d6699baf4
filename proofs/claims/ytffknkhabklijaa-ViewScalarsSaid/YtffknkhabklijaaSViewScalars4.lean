import Derived.Conc.CrowdStepC
import Derived.Listen
import Derived.Test.YtffknkhabklijaaChecked
import Derived.Test.YtffknkhabklijaaSViewScalars3
set_option linter.unusedSimpArgs false
set_option linter.unusedVariables false
set_option linter.defProp false
theorem Z2{p:Prop}(h:p:=by kernel_rfl):p:=h
def Z6T:=@Go.Frame.finish_at
def Z6V:=@Nat.le_max_left
def Z7w:=@Nat.le_max_right
def Z77:=@Nat.lt_succ_self
def Z6m:=@Iff.rfl
def Z7q:=@Array.getElem?_mapIdx
def Z7g:=@List.getElem?_cons_succ
section
namespace Vm
open Go Go.Conc
section
def bes(P:Program):Program:=P
section
variable {P:Program}{Stop:Frame->List Frame->World->Prop}{b:Frame}{k:List Item}{cs:List Frame}{a:Act}{w:World}
theorem R0(fn:Func)(tmps:Array Value):Calm (results fn tmps):=by
 unfold results;refine .bind (zE (λr=> ?_) _) λ_=>.pure _;cases r with
 |tmp t=>exact .pure _
 |cell a t=>exact .bind (calm_asAddr _) λ_=>calm_loadVar _ _
def Aw{c:Code}:stepG P true (G (b.at a (.code (.scope c)::k)) cs) w=.go (G (b.at a (.code c:: .inScope c::k)) cs) w:=Z4r
def zi{c:Code}:stepG P true (G (b.at a (.inScope c::k)) cs) w=.go (G (b.at a k) cs) w:=Z4r
def Df:stepG P true (G (b.at a (.code .ret::k)) cs) w=.go (G {b.at a (.code .ret::k)with mode:=.returning} cs) w:=Z4r
def Leaves(P:Program)(fr:Frame)(w:World)(R:Value->World->Prop):Prop:=
 fr.mode=.returning/\fr.defers=[]/\fr.kind=.normal/\∃fn,P.funcs[fr.fn]?=some fn/\∀d,∃v,(results fn fr.tmps).run P (w.at d)=.ok v (w.at d)/\R v (w.at d)
def qK{fr c:Frame}{fn:Func}{v:Value}(h1:fr.mode=.returning)(h2:fr.defers=[])(h3:fr.kind=.normal)(h4:P.funcs[fr.fn]?=some fn)(h5:(results fn fr.tmps).run P w=.ok v w):
  stepG P true (G fr (c::cs)) w=.go (G (c.finish v) cs) w (seen P fr.fn ((results fn fr.tmps).events P w #[])):=by
 simp_all[G,stepG,unwind,doReturn,GStep.after]
def Leaves.walk{fr c:Frame}{R:Value->World->Prop}(h:Leaves P fr w R)(hk:∀v w,R v w->Walk P Stop (c.finish v) cs w):Walk P Stop fr (c::cs) w:=by
 obtain⟨h1,h2,h3,fn,h4,h5⟩:=h;refine .one λd=> ?_;obtain⟨v,hv,hr⟩:=h5 d;refine⟨_,_,_,_,qK h1 h2 h3 h4 hv,Z4A _,λe he=> ?_,hk v _ hr⟩;have:=XJ (P:=P) (R0 fn fr.tmps) (w.at d) e (mem_seen he);rw[hv]at this;exact this
def AfterB(P:Program)(Stop:Frame->List Frame->World->Prop)(b:Frame)(k:List Item)(cs:List Frame):Exit->Act->World->Prop
 |.normal,a,w=>Walk P Stop (b.at a k) cs w
 |.exit id,a,w=>∃k',exitTo id k=some k'/\Walk P Stop (b.at a k') cs w
 |.ret,a,w=>∀todo,Walk P Stop {b.at a todo with mode:=.returning} cs w
 |_,_,_=>False
def AfterB.push{x:Item}{e:Exit}(hx:x.plain=true)(he:e≠.normal)(h:AfterB P Stop b k cs e a w):AfterB P Stop b (x::k) cs e a w:=by
 cases e with
 |normal=>simp_all
 |exit id=>obtain⟨k',hk,hg⟩:=h;exact⟨k',by cases x<;>simp_all [exitTo,Item.plain],hg⟩
 |ret=>exact h
 |goto l=>exact h
 |panic ch=>exact h
 |outgrown=>exact h
def wpB(P:Program)(c:Code)(Q:Exit->Act->World->Prop)(a:Act)(w:World):Prop:=
 ∀(b:Frame) (k:List Item) (cs:List Frame) (Stop:Frame->List Frame->World->Prop),b.kind≠.early->(∀e a' w',Q e a' w'->AfterB P Stop b k cs e a' w')->Walk P Stop (b.at a (.code c::k)) cs w
def Z0M(P:Program)(ops:Array Oper)(Q:Exit->Act->World->Prop)(l:List Nat)(a:Act)(w:World):Prop:=
 ∀(b:Frame) (k:List Item) (cs:List Frame) (Stop:Frame->List Frame->World->Prop),b.kind≠.early->(∀e a' w',Q e a' w'->AfterB P Stop b k cs e a' w')->Walk P Stop (b.at a (.inRegion ops l::k)) cs w
def DN(P:Program)(f:FuncId)(args:Array Value)(w:World)(R:Ending->World->Prop):Prop:=
 ∀(cs:List Frame) (Stop:Frame->List Frame->World->Prop),(∀fr w',fr.fn=f->Leaves P fr w' (λv w=>R (.returned v) w)->Walk P Stop fr cs w')->Walk P Stop (Frame.enter P f args .normal) cs w
variable {Q:Exit->Act->World->Prop}
def Oo{x y:Code}(h:wpB P x (Exit.then (wpB P y Q) Q) a w):wpB P (.seq x y) Q a w:=by
 intro b k cs Stop hb hc;refine .go (λw=>stepG_seq) (h b (.code y::k) cs Stop hb λe a' w' q=> ?_);cases e with
 |normal=>exact q b k cs Stop hb hc
 |exit id=>exact(hc _ _ _ q).push rfl Z1
 |ret=>exact(hc _ _ _ q).push (x:=.code y) rfl Z1
 |goto l=>exact hc _ _ _ q
 |panic ch=>exact hc _ _ _ q
 |outgrown=>exact hc _ _ _ q
def GI{x:Code}(h:wpB P x (Exit.noGoto Q) a w):wpB P (.scope x) Q a w:=by
 intro b k cs Stop hb hc;refine .go (λw=>Aw) (h b (.inScope x::k) cs Stop hb λe a' w' q=> ?_);cases e with
 |normal=>exact .go (λw=>zi) (hc _ _ _ q)
 |exit id=>obtain⟨k',hk,hg⟩:=hc _ _ _ q;exact⟨k',by simp[exitTo,hk],hg⟩
 |ret=>exact hc _ _ _ q
 |goto l=>exact q.elim
 |panic ch=>exact hc _ _ _ q
 |outgrown=>exact hc _ _ _ q
def GG{id:Nat}{c:Code}(h:wpB P c (Exit.inBlock id Q) a w):wpB P (.block id c) Q a w:=by
 intro b k cs Stop hb hc;refine .go (λw=>stepG_block) (h b (.inBlock id::k) cs Stop hb λe a' w' q=> ?_);cases e with
 |normal=>exact .go (λw=>stepG_inBlock) (hc _ _ _ q)
 |exit id'=>
  by_cases hid:id'=id
  ·simp only[Exit.inBlock,hid,Z5b]at q;exact⟨k,by simp[exitTo,hid],hc _ _ _ q⟩
  ·simp only[Exit.inBlock,hid,Z5h]at q;obtain⟨k',hk',hg⟩:=hc _ _ _ q;have:(id==id')=false:=by simp;exactλh=>hid h.symm
   exact⟨k',by simp_all[exitTo],hg⟩
 |ret=>exact hc _ _ _ q
 |goto l=>exact hc _ _ _ q
 |panic ch=>exact hc _ _ _ q
 |outgrown=>exact hc _ _ _ q
def IS{c:Code}(I:Act->World->Prop)(μ:Act->World->Nat)(h₀:I a w)
  (round:∀a w,I a w->wpB P c (Exit.then (λa' w'=>I a' w'/\μ a' w'<μ a w) Q) a w):wpB P (.loop c) Q a w:=by
 intro b k cs Stop hb hc
 have key:∀n a w,μ a w=n->I a w->Walk P Stop (b.at a (.code c:: .inLoop c::k)) cs w:=by
  intro n
  induction n using Nat.strongRecOn with
  |_ n ih=>
   intro a w hn hI;refine round a w hI b (.inLoop c::k) cs Stop hb λe a' w' q=> ?_;cases e with
   |normal=>exact .go (λw=>stepG_inLoop) (ih (μ a' w') (hn▸q.2) a' w' rfl q.1)
   |exit id=>exact(hc _ _ _ q).push rfl Z1
   |ret=>exact(hc _ _ _ q).push (x:=.inLoop c) rfl Z1
   |goto l=>exact hc _ _ _ q
   |panic ch=>exact hc _ _ _ q
   |outgrown=>exact hc _ _ _ q
 exact .go (λw=>stepG_loop) (key _ a w rfl h₀)
def Walk.op{ops:Array Oper}{i:Nat}{rest:List Nat}{o:Oper}(ho:ops[i]?=some o)(hw:Region.wanted o (yielded ops a.tmps)=true)(hk:b.kind≠.early)(hf:∀o∈ops,C6 P o.op=true)
  (h:∀d,match(execOp a.eval o).run P (w.at d)with
   |.ok (.value v) w'=>Walk P Stop (b.at (a.put o.dst v) (.inRegion ops rest::k)) cs w'
   |.ok .skip w'=>Walk P Stop (b.at (a.put o.dst undef) (.inRegion ops rest::k)) cs w'
   |.ok (.enter f args) w'=>Walk P Stop (Frame.enter P f args .normal) (b.at a (.inRegion ops (i::rest)::k)::cs) w'
   |_=>False):Walk P Stop (b.at a (.inRegion ops (i::rest)::k)) cs w:=by
 refine .one λd=> ?_;have h:=h d;have hge:=(KY P (execOp a.eval o) (w.at d)).1;have hev:EvsB (wdR ((execOp a.eval o).run P (w.at d))).heap.size (listed P b.fn a o (w.at d)):=λe he=>B0 (hf o (Z69 ho)) a (w.at d) e (mem_listed he)
 revert h
 cases hr:(execOp a.eval o).run P (w.at d)with
 |halt x w'=>simp
 |ok n w'=>
  rw[hr]at hge hev;cases n<;>first|simp|skip
  ·exactλh=>⟨_,_,_,_,stepG_value ho hw hk hr,hge,hev,h⟩
  ·exactλh=>⟨_,_,_,_,stepG_none ho hw hk hr,hge,hev,h⟩
  ·exactλh=>⟨_,_,_,_,stepG_enter ho hw hk hr,hge,hev,h⟩
def De{ops:Array Oper}{i:Nat}{rest:List Nat}(ho:ops[i]?=none):stepG P true (G (b.at a (.inRegion ops (i::rest)::k)) cs) w=.go (G (b.at a (.inRegion ops rest::k)) cs) w #[]:=by
 have hfin:(b.at a (.inRegion ops (i::rest)::k)).finish undef=b.at a (.inRegion ops rest::k):=by rw[Z6T,ho];rfl
 simp_all[G,stepG,stepG.exec,Frame.at]
end
instance besI (P:Program):Lg (bes P) where
 wp c Q a w:=wpB P c Q a w
 calls f args w R:=DN P f args w R
 todo ops Q l a w:=Z0M P ops Q l a w
 sim w w1:=∃d,w1=w.at d
 fit o:=C6 P o.op=true
 sim_eq h:=by obtain⟨d,rfl⟩:=h;rfl
 calls_mono h k:=λcs Stop hs=>h cs Stop λfr w' h1 h2=>hs fr w' h1 (by
  obtain⟨q1,q2,q3,fn,q4,q5⟩:=h2;exact⟨q1,q2,q3,fn,q4,λd=>by obtain⟨v,r1,r2⟩:=q5 d;simp_all⟩)
 wp_mono h k:=λb kk cs Stop hb hc=>h b kk cs Stop hb λe a w q=>hc e a w (k e a w q)
 wp_skip h:=λb k cs Stop hb hc=>.go (λw=>stepG_skip) (hc _ _ _ h)
 wp_label h:=λb k cs Stop hb hc=>.go (λw=>stepG_label) (hc _ _ _ h)
 wp_exit h:=λb k cs Stop hb hc=>by
  obtain⟨k',hk',hg⟩:=hc _ _ _ h;exact .go (λw=>stepG_exit hk') hg
 wp_ret h:=λb k cs Stop hb hc=>.go (λw=>Df) (hc _ _ _ h _)
 wp_seq h:=Oo h
 wp_scope h:=GI h
 wp_cond_true hc h:=λb k cs Stop hb hq=>.go (λw=>stepG_cond hc) (h b k cs Stop hb hq)
 wp_cond_false hc h:=λb k cs Stop hb hq=>.go (λw=>stepG_cond hc) (h b k cs Stop hb hq)
 wp_block h:=GG h
 wp_loop I μ h k:=IS I μ h k
 wp_region _ h:=λb k cs Stop hb hc=>.go (λw=>stepG_region) (h b k cs Stop hb hc)
 wp_draw {id ops Q a w} _ h:=λb k cs Stop hb hc=>.one λd=>⟨_,_,_,_,stepG_region_draw,Z4A _,λe he=>by simp at he,h (w.at d) ⟨d,rfl⟩ _ b k cs Stop hb hc⟩
 todo_nil h:=λb k cs Stop hb hc=>.go (λw=>stepG_region_end) (hc _ _ _ h)
 todo_cons {ops Q i rest a w} hf h:=λb k cs Stop hb hc=>by
  cases ho:ops[i]? with
  |none=>
   have h:=h w ⟨w.drawn,rfl⟩;rw[ho]at h;exact .go (λw=>De ho) (h b k cs Stop hb hc)
  |some o=>
   rw[ho]at h;dsimp only at h;by_cases hw:Region.wanted o (yielded ops a.tmps)=true
   ·refine .op ho hw hb hf λd=> ?_;have h:=h (w.at d) ⟨d,rfl⟩;rw[if_pos hw]at h
    revert h
    show Dj (DN P) o a (Z0M P ops Q rest) ((execOp a.eval o).run P (w.at d))->_;cases(execOp a.eval o).run P (w.at d)with
    |halt x w'=>exact id
    |ok n w'=>
     cases n<;>first|exact id|exactλh=>h b k cs Stop hb hc|skip
     refineλh=>h _ Stop λfr w2 h1 hL=>hL.walk λv w3 hr=> ?_;obtain⟨v',e,hr⟩:=hr;cases e;rw[Z6T,ho];exact hr b k cs Stop hb hc
   ·have h:=h w ⟨w.drawn,rfl⟩;rw[if_neg hw]at h;exact .go (λw=>stepG_unwanted ho Z3L) (h b k cs Stop hb hc)
 calls_of_wp {f fn c args w R} hf hb h:=λcs Stop hs=>by
  have hf:P.funcs[f]?=some fn:=hf;rw[enter_at args hf hb];refine h (base f) [] cs Stop (by simp[base]) λe a' w' q=> ?_;cases e with
  |normal=>exact .go (λw=>stepG_end) (hs _ _ rfl ⟨rfl,q.1,rfl,fn,hf,λd=>q.2 (w'.at d) ⟨d,rfl⟩⟩)
  |ret=>exactλtodo=>hs _ _ rfl ⟨rfl,q.1,rfl,fn,hf,λd=>q.2 (w'.at d) ⟨d,rfl⟩⟩
  |_=>exact q.elim
end
end Vm
end
section
namespace Vm
open Go Go.Conc
open Go.RowKit (Below)
inductive NoM:V->Prop where
 |int (k:IntKind) (n:Int):NoM (.int k n)
 |bool (b:Bool):NoM (.bool b)
 |str (s:ByteArray):NoM (.str s)
 |fn (f:FuncId):NoM (.fn f)
 |nul (k:Nat):NoM (.nul k)
 |sl (l:List V):(∀c∈flat l,NoM c)->NoM (.sl l)
 |agg (l:List V):(∀c∈l,NoM c)->NoM (.agg l)
 |tup (l:List V):(∀c∈l,NoM c)->NoM (.tup l)
 |ptr (l:List V):(∀c∈l,NoM c)->NoM (.ptr l)
 |clo (f:FuncId) (l:List V):(∀c∈l,NoM c)->NoM (.clo f l)
def FixV.mono{n m:Nat}{v:Value}(h:FixV n v)(hm:n<=m):FixV m v:=λρ hρ=>h ρ λb hb=>hρ b (Z4F hb hm)
def Tp{l:List Value}(h:∀v∈l,∃n,FixV n v):∃n,∀v∈l,FixV n v:=by
 induction l with
 |nil=>simp
 |cons v l ih=>
  obtain⟨n,hn⟩:=h v Z1;obtain⟨m,hm⟩:=ih λx hx=>h x (by simp[hx])
  exact⟨max n m,λx hx=>by
   obtain rfl|hx:=Z4H.1 hx
   ·exact hn.mono (Z6V ..)
   ·exact(hm x hx).mono (Z7w ..)⟩
def VF{n:Nat}{a:Array Value}(h:∀v∈a,FixV n v):∀ρ,idB n ρ->a.map (ren ρ)=a:=λρ hρ=>Vb λx hx=>h x hx ρ hρ
def Ko:∀v:Value,∃n,FixV n v
 |.bool b=>⟨0,λρ _=>YH ..⟩
 |.int k n=>⟨0,λρ _=>ZU ..⟩
 |.float k b=>⟨0,λρ _=>X6 ..⟩
 |.complex k a b=>⟨0,λρ _=>z9 ..⟩
 |.string s=>⟨0,λρ _=>Vi ..⟩
 |.pointer none=>⟨0,λρ _=>Xx ..⟩
 |.pointer (some a)=>⟨a.block+1,λρ h=>by rw[Yi];simp[renA,h a.block (Z77 _)]⟩
 |.slice none n c=>⟨0,λρ _=>by simp[ren]⟩
 |.slice (some a) n c=>⟨a.block+1,λρ h=>by simp[ren,renA,h a.block (Z77 _)]⟩
 |.map none=>⟨0,λρ _=>by simp[ren]⟩
 |.map (some r)=>⟨r+1,λρ h=>by simp[ren,h r (Z77 _)]⟩
 |.chan none=>⟨0,λρ _=>by simp[ren]⟩
 |.chan (some r)=>⟨r+1,λρ h=>by simp[ren,h r (Z77 _)]⟩
 |.nilIface=>⟨0,λρ _=>by simp[ren]⟩
 |.nilFunc=>⟨0,λρ _=>by simp[ren]⟩
 | .iface t v=>by
   obtain⟨n,hn⟩:=Ko v;exact⟨n,λρ h=>by simp only[ren];rw[hn ρ h]⟩
 | .func fn a b=>by
   obtain⟨n,hn⟩:=Tp (l:=a.toList) λv hv=>Ko v;obtain⟨m,hm⟩:=Tp (l:=b.toList) λv hv=>Ko v;refine⟨max (max n m) (match fn with|.yield l=>l+1|_=>0),λρ h=> ?_⟩;simp only[ren]
   rw[VF (n:=max n m) (a:=a) (λv hv=>(hn v (by simpa using hv)).mono (Z6V ..)) ρ λb hb=>h b (Z4F hb (Z6V ..)),
    VF (n:=max n m) (a:=b) (λv hv=>(hm v (by simpa using hv)).mono (Z7w ..)) ρ λb hb=>h b (Z4F hb (Z6V ..))]
   cases fn with
   |yield l=>simp only[WL];rw[h l (Z4F (Z77 l) (Z7w ..))]
   |_=>rfl
 | .agg cs=>by
   obtain⟨n,hn⟩:=Tp (l:=cs.toList) λv hv=>Ko v;exact⟨n,λρ h=>by rw[Yh,VF (λv hv=>hn v (by simpa using hv)) ρ h]⟩
 | .tuple cs=>by
   obtain⟨n,hn⟩:=Tp (l:=cs.toList) λv hv=>Ko v;exact⟨n,λρ h=>by rw[Xy,VF (λv hv=>hn v (by simpa using hv)) ρ h]⟩
termination_by v=>sizeOf v
decreasing_by
 all_goals simp_wf
 all_goals first|(have:=Array.sizeOf_lt_of_mem (show _∈_ from(by simpa using hv));omega)|omega
def M3:Option Obj->Array Value
 |some (.cells c _ _)=>c
 |_=> #[]
def zV(w:World)(vs:Array Value):∃n,w.heap.size<=n/\(∀v∈vs,FixV n v)/\∀(b:Nat) (c:Array Value) (e:TypeId) (fr:Nat×Nat),w.heap[b]?=some (.cells c e fr)->FixO n (.cells c e fr):=by
 obtain⟨n,hn⟩:=Tp (l:=vs.toList++(w.heap.toList.flatMap λo=>(M3 (some o)).toList)) λv _=>Ko v;refine⟨max n w.heap.size,Z7w ..,λv hv=>(hn v (by simp[hv])).mono (Z6V ..),λb c e fr hb ρ hρ=> ?_⟩;simp only[renO];rw[VF (n:=max n w.heap.size) (a:=c) (λv hv=>(hn v ?_).mono (Z6V ..)) ρ hρ]
 grind [List.mem_append_right,M3,Array.mem_of_getElem?]
def TC{X:Cx}{w:World}{t:Nat->Question->Nat}{b o:Nat}{v:Value}(hO:¬X.O b)(hG:∀c e fr,w.heap[b]?=some (.cells c e fr)->X.G b)(hn:w.heap.size<=X.n0)(h:w.cell? ⟨b,o,none⟩=some v):(X.mask w t).cell? ⟨b,o,none⟩=some v:=by
 obtain⟨_,c,e,fr,h1,h2⟩:=Wz h;have hlt:=(Z4z.1 h1).1
 have:(X.mask w t).heap[b]?=some (.cells c e (0,c.size)):=by
  rw[LJ,if_pos (Z4F hlt hn),h1];unfold Cx.maskO;dsimp only;rw[if_neg hO,if_pos (hG c e fr h1)]
 simp_all[World.cell?]
def Tq{l:List V}{i:Nat}{c:V}(h:(flat l)[i]?=some c):c∈flat l:=Z4B h
def FQ{X:Cx}{w:World}{t:Nat->Question->Nat}{G:Nat->Prop}(hO:∀b,¬X.O b)(hG:∀b c e fr,G b->w.heap[b]?=some (.cells c e fr)->X.G b)(hn:w.heap.size<=X.n0){x:V}{v:Value}(h:Rd w G x v)(hm:NoM x):Rd (X.mask w t) G x v:=by
 induction h with
 |int k n=>exact .int k n
 |bool b=>exact .bool b
 |str s=>exact .str s
 |nil a cap h=>exact .nil a cap h
 |sl l b o cap k vs h1 h2 hb hf hc _ ih=>
  cases hm with
  |sl _ hm=>exact .sl l b o cap k vs h1 h2 hb hf (λi hi=>TC (hO b) (λc e fr=>hG b c e fr hb) hn (hc i hi)) λi c hi=>ih i c hi (hm c (Tq hi))
 |agg cs vs h1 h2 _ ih=>
  cases hm with
  |agg _ hm=>exact .agg cs vs h1 h2 λi c hi=>ih i c hi (hm c (Z4B hi))
 |tup l vs h1 _ ih=>
  cases hm with
  |tup _ hm=>exact .tup l vs h1 λi c hi=>ih i c hi (hm c (Z4B hi))
 |ptr cs b o vs hb h1 hc _ ih=>
  cases hm with
  |ptr _ hm=>exact .ptr cs b o vs hb h1 (λi hi=>TC (hO b) (λc e fr=>hG b c e fr hb) hn (hc i hi)) λi c hi=>ih i c hi (hm c (Z4B hi))
 |fn f=>exact .fn f
 |clo f cs vs h1 _ ih=>
  cases hm with
  |clo _ _ hm=>exact .clo f cs vs h1 λi c hi=>ih i c hi (hm c (Z4B hi))
 |nul0=>exact .nul0
 |nul1=>exact .nul1
 |nomp=>cases hm
 |mp=>cases hm
def Mr{X:Cx}{wl w:World}(hw:X.WR wl w){D:Nat->Prop}{x:V}{v:Value}(h:Rd wl D x v)(hm:NoM x):Rd w (λb'=>∃b,D b/\b'=X.ρ b) x (ren X.ρ v):=by
 induction h with
 |int k n=>rw[ZU];exact .int k n
 |bool b=>rw[YH];exact .bool b
 |str s=>rw[Vi];exact .str s
 |nil a cap h=>
  have:ren X.ρ (.slice a 0 cap)=.slice (a.map (renA X.ρ)) 0 cap:=by cases a<;>simp[ren]
  rw[this];exact .nil _ cap h
 |sl l b o cap k vs h1 h2 hb hf hc _ ih=>
  cases hm with
  |sl _ hm=>
   have:ren X.ρ (.slice (some ⟨b,o,none⟩) l.length cap)=.slice (some ⟨X.ρ b,o,none⟩) l.length cap:=by simp[ren,renA]
   rw[this];exact .sl l (X.ρ b) o cap k (λi=>ren X.ρ (vs i)) h1 h2 ⟨b,hb,rfl⟩ hf (λi hi=>(hw.cell (hc i hi)).1) λi c hi=>ih i c hi (hm c (Tq hi))
 |agg cs vs h1 h2 _ ih=>
  cases hm with
  |agg _ hm=>
   rw[Yh];exact .agg cs _ Z3L h2 λi c hi=>by grind [WY,List.mem_of_getElem?]
 |tup l vs h1 _ ih=>
  cases hm with
  |tup _ hm=>
   rw[Xy];exact .tup l _ Z3L λi c hi=>by grind [WY,List.mem_of_getElem?]
 |ptr cs b o vs hb h1 hc _ ih=>
  cases hm with
  |ptr _ hm=>
   rw[Yi];exact .ptr cs (X.ρ b) o (λi=>ren X.ρ (vs i)) ⟨b,hb,rfl⟩ h1 (λi hi=>(hw.cell (hc i hi)).1) λi c hi=>ih i c hi (hm c (Z4B hi))
 |fn f=>
  have:ren X.ρ (.func (.func f) #[] #[])=.func (.func f) #[] #[]:=by simp[ren,WL]
  rw[this];exact .fn f
 |clo f cs vs h1 _ ih=>
  cases hm with
  |clo _ _ hm=>
   have:ren X.ρ (.func (.func f) #[] vs)=.func (.func f) #[] (vs.map (ren X.ρ)):=by simp[ren,WL]
   rw[this];exact .clo f cs _ Z3L λi c hi=>by grind [WY,List.mem_of_getElem?]
 |nul0=>rw[Xx];exact .nul0
 |nul1=>rw[Vh];exact .nul1
 |nomp=>cases hm
 |mp=>cases hm
inductive Look {α:Type}:Sem α->Prop where
 |pure (a:α):Look (.pure a)
 |halt (h:Halt):Look (.halt h)
 |load {m:Mode} {a:Addr} {k:Value->Sem α}:(∀v,Look (k v))->Look (.load m a k)
 |prog {k:Program->Sem α}:(∀p,Look (k p))->Look (.program k)
def Look.world{α:Type}{p:Program}{s:Sem α}(h:Look s)(w:World):wdR (s.run p w)=w:=by
 induction h with
 |pure a=>rfl
 |halt h=>rfl
 |load _ ih=>
  unfold Sem.run;split
  ·exact ih _
  ·split
   ·exact ih _
   ·rfl
 |prog _ ih=>exact ih _
theorem Look.bind{α β:Type}{s:Sem α}{f:α->Sem β}(h:Look s)(hf:∀a,Look (f a)):Look (s>>=f):=by
 show Look (s.bind f)
 induction h with
 |pure a=>exact hf a
 |halt h=>exact .halt h
 |load _ ih=>exact .load ih
 |prog _ ih=>exact .prog ih
def yA{α β:Type}{f:α->Sem β}(hf:∀a,Look (f a)):∀l:List α,Look (l.mapM f)
 | []=>by simp only[Z7z];exact .pure _
 |a::l=>by
  simp only[Z6N];exact(hf a).bind λb=>(yA hf l).bind λbs=>.pure _
def Sz{α:Type}(s:String):Look (stuck s:Sem α):=.halt _
def yB:Look program:=.prog λp=>.pure p
def F2(t:TypeId):Look (typeInfo t):=yB.bind λp=>by split<;>first|exact .pure _|exact Sz _
def CF(t:TypeId):Look (underlying t):=yB.bind λp=>by split<;>first|exact .pure _|exact Sz _
def F4(t:TypeId):Look (sizeOf t):=(F2 t).bind λi=>.pure _
def Hy(t:TypeId):Look (isAgg t):=(CF t).bind λd=>by cases d<;>exact .pure _
def yz(a:Addr):∀(n i:Nat) (acc:Array Value),Look (loadCellsFrom a i n acc)
 |0,_,_=>.pure _
 |n+1,i,acc=>.load λv=>yz a n _ _
def Hz(t:TypeId)(a:Addr):Look (loadVar t a):=(Hy t).bind λb=>by
 cases b with
 |true=>exact(F4 t).bind λn=>(yz a n 0 #[]).bind λc=>.pure _
 |false=>exact .load λv=>.pure v
def R8(fn:Func)(tmps:Array Value):Look (results fn tmps):=by
 unfold results;rw[Z5Y];refine Look.bind (s:=Functor.map _ _) ?_ λ_=>.pure _;rw[Z78];refine(yA (λr=> ?_) _).bind λ_=>.pure _;cases r with
 |tmp t=>exact .pure _
 |cell a t=>
  refine Look.bind ?_ λa=>Hz _ _;unfold asAddr;split
  ·exact .pure _
  ·exact .prog λp=>.halt _
  ·exact Sz _
def FM{P:Program}{c:Nat}{K:Nat->Prop}{StopP:(Nat->Prop)->Goroutine->World->Prop}{Stop:Frame->List Frame->World->Prop}{es:List Ev}{O:Nat->Prop}{g:Goroutine}{w:World}(h:Play P true c K StopP es O g w):
  es=[]->∀(fr:Frame) (cs:List Frame) (w0:World),g=G fr cs->(w0.os,w0.output)=(w.os,w.output)->w0.tape=w.tape->w0.heap.size<=w.heap.size->(∀b,b<w0.heap.size->w.heap[b]?=w0.heap[b]?)->(∀b,O b->w0.heap.size<=b/\b<w.heap.size)->(∀b,K b->b<w0.heap.size)->
  (∀O fr' cs' w',StopP O (G fr' cs') w'->(w0.os,w0.output)=(w'.os,w'.output)->w0.tape=w'.tape->w0.heap.size<=w'.heap.size->(∀b,b<w0.heap.size->w'.heap[b]?=w0.heap[b]?)->(∀b,O b->w0.heap.size<=b/\b<w'.heap.size)->Walk P Stop fr' cs' w')->Walk P Stop fr cs w:=by
 induction h with
 | @stop O g w hs=>
   intro _ fr cs w0 hg h1 h2 h3 h4 h5 _ hk;subst hg;exact hk O fr cs w (hs w (.refl _ _ _)) h1 h2 h3 h4 h5
 |ev=>intro he;cases he
 | @step es O fr0 cs0 w h1 _ ih=>
   intro he fr cs w0 hg e1 e2 e3 e4 e5 e6 hk;injection hg with q1 q2;subst q1 q2;refine .one λd=> ?_;have hr:Rely K O w (w.at d):=Rely.at _ _ _ d;obtain⟨fr',cs',w',es',k1,k2⟩:=h1 (w.at d) hr;have hsz:w.heap.size<=w'.heap.size:=k2.sz
   have ho:∀b,grow O (w.at d) w' b->w0.heap.size<=b/\b<w'.heap.size:=λb hb=>by
    obtain hb|hb:=hb
    ·have:=e5 b hb;omega
    ·have:w.heap.size<=b:=hb.1;have:=hb.2;omega
   refine⟨fr',cs',w',es',k1,hsz,λe he=> ?_,ih (w.at d) _ w' es' hr k1 he fr' cs' w0 rfl (e1.trans k2.os.symm) (e2.trans k2.tape.symm) Z0 (λb hb=> ?_) ho e6 hk⟩
   ·have:=k2.evs e he;unfold EvC at this;unfold EvB EvC;split<;>simp only[*]at this
    ·obtain h|h:=this
     ·exact .inl (ho _ h).2
     ·have:=e6 _ h.2;exact .inl Z0
    ·exact(ho _ this).2
    ·exact this
    ·trivial
   ·have:=k2.keep b (by show b<w.heap.size;omega) λhb'=>by have:=(e5 b hb').1;omega
    rw[this];exact e4 b hb
structure Sub (P Q:Program):Prop where
 same:P= {Q with funcs:=P.funcs,globals:=P.globals}
 glob:Q.globals=#[]
 zero:∀t i z,Q.info? t=some i->i.zero=some z->FixV 0 z
 fn:∀(f:FuncId) (fn:Func),Q.funcs[f]?=some fn->(fn.name= "?" /\fn.origin= "?" /\fn.body=none)\/((fn.name== "runtime.NumGoroutine")=false/\P.funcs[f]?=some fn/\∃c,fn.body=some c/\ZL Q false c=true)
def cxS(P Q:Program)(n0:Nat)(G O:Nat->Prop):Cx:=
 {Q,fs:=P.funcs,gs:=P.globals,ρ:=id,n0,G,O
  KL:=λl=>ZL Q true l.assign=true/\ZL Q true l.body=true/\l.pending.all Ky=true/\((∃fn c,Q.funcs[l.fn]?=some fn/\P.funcs[l.fn]?=some fn/\fn.body=some c/\ZL Q false c=true)\/(Q.funcs[l.fn]?=none/\P.funcs[l.fn]?=none)\/∃fn fn',Q.funcs[l.fn]?=some fn/\P.funcs[l.fn]?=some fn'/\fn'.results=fn.results)
  KD:=λd=>okD d=true}
def Sub.ok{P Q:Program}(h:Sub P Q)(n0:Nat)(G O:Nat->Prop)(ρ:Nat->Nat):((cxS P Q n0 G O).at ρ).Ok:=
 ⟨λt i z h1 h2=>h.zero t i z h1 h2 ρ λb hb=>Z0,h.glob,λl=>Z6m,λd=>Z6m,h.fn⟩
def Sub.P{P Q:Program}(h:Sub P Q)(n0:Nat)(G O:Nat->Prop):(cxS P Q n0 G O).P=P:=h.same.symm
def AW{P Q:Program}(hs:Sub P Q){f:FuncId}{fn:Func}(hq:Q.funcs[f]?=some fn)(hb:fn.body≠none)(vs:Array Value)(n0:Nat)(G O:Nat->Prop)(ρ:Nat->Nat):
  P.funcs[f]?=some fn/\Frame.enter Q f vs .normal=Frame.enter P f vs .normal/\((cxS P Q n0 G O).at ρ).St (Frame.enter P f vs .normal) []:=by
 obtain⟨_,_,h⟩|⟨h1,h2,c,h3,h4⟩:=hs.fn f fn hq
 ·exact absurd h hb
 ·refine⟨h2,by simp[Frame.enter,hq,h2],⟨⟨λi hi=> ?_,λd hd=> ?_,?_,?_⟩,λc hc=>by simp at hc,?_⟩⟩
  ·simp[Frame.enter,h2,h3]at hi;subst hi;have:(Frame.enter P f vs .normal).roundOf.isSome=false:=by simp[Frame.enter,h2,h3,Frame.roundOf]
   rw[this];exact h4
  ·simp[Frame.enter,h2,h3]at hd
  ·left;simp[Frame.enter,h2,h3]
  ·left;exact⟨fn,c,hq,h2,h3,h4⟩
  ·simp[bot,Frame.enter,h2,h3]
def E5{P:Program}{f:FuncId}{vs:Array Value}{n:Nat}(h:∀v∈vs,FixV n v):FixF n (Frame.enter P f vs .normal):=by
 intro ρ hρ
 have e1:(vs++Array.replicate (((P.funcs[f]?).map (·.ntmps)).getD 0-vs.size) undef).map (ren ρ)=vs++Array.replicate (((P.funcs[f]?).map (·.ntmps)).getD 0-vs.size) undef:=by
  rw[Z6n,VF h ρ hρ];simp[X8]
 simp only[Frame.enter,renF,e1];simp[renI,renM]
def OO{X:Cx}{wl w:World}(h:X.WR wl w)(d:Nat):X.WR wl (w.at d):=⟨h.os,h.nl,h.low,h.inj,h.blk⟩
def EW{P Q:Program}(hs:Sub P Q){f:FuncId}{fr:Bool}{args:List V}{r:V}(hv:VC Q f fr args r)(ha:∀x∈args,NoM x)(hr:NoM r):VC (bes P) f fr args r:=by
 obtain⟨hc,hv⟩:=hv
 obtain⟨fn,hq,hb,hname⟩:∃fn,Q.funcs[f]?=some fn/\fn.body≠none/\(fn.name== "runtime.NumGoroutine")=false:=by
  unfold Yd at hc;split at hc
  ·rename_i fn hf;simp only[Z4x,Z5m]at hc;exact⟨fn,hf,by cases h:fn.body<;>simp_all,hc.1⟩
  ·cases hc
 have hpf:=(AW hs hq hb #[] 0 (λ_=>False) (λ_=>False) id).1;refine⟨?_,λw G vs hG hsz hrd cs Stop hk=> ?_⟩
 ·show Yd P f=true;unfold Yd;rw[hpf];simp only[Z4x,Z5m];exact⟨hname,by cases h:fn.body<;>simp_all⟩
 obtain⟨n0,hn0,hfv,hfo⟩:=zV w vs
 let X:Cx:=cxS P Q n0 (λb=>G b/\∃c e fr,w.heap[b]?=some (.cells c e fr)) (λ_=>False)
 have hXP:∀ρ,(X.at ρ).P=P:=λρ=>hs.same.symm;have hmz:∀t,(X.mask w t).heap.size=n0:=λt=>by simp[Cx.mask,X,cxS]
 have hen:=λρ=>AW hs hq hb vs n0 (λb=>G b/\∃c e fr,w.heap[b]?=some (.cells c e fr)) (λ_=>False) ρ
 have hw:=Om X (hs.ok n0 _ _) (c:=0) (es:=[]) (fr:=Frame.enter P f vs .normal) (cs:=[]) (ds:=cs) (main:=true) (wc:=w) Z1 (λρ=>(hen ρ).2.2)
  (λg hg=>by
   rw[Z5x.1 hg];exact E5 hfv)
  (λb o ho hO=>by
   obtain hO|⟨_,c,e,fr,he⟩:=hO
   ·exact hO.elim
   ·rw[ho]at he;cases he;exact hfo b c e fr ho)
  (Post:=λwl fr' cs' wl'=>cs'=[]/\fr'.fn=f/\∃v,fr'.leaving Q wl' (.returned v)/\Rd wl' (λb=>(fr=false/\G b)\/(wl.heap.size<=b/\b<wl'.heap.size)) r v)
  (λt=>by
   obtain⟨e,w',fr',⟨v,rfl,_,hrd'⟩,⟨n,hn⟩,hfn,hl⟩:=hv (X.mask w t) G vs (λb hb=>by rw[hmz];exact Z4F (hG b hb) hn0) hsz
    (λi x hx=>FQ (X:=X) (λb h=>h) (λb c e fr hg hc=>⟨hg,c,e,fr,hc⟩) hn0 (hrd i x hx) (ha x (Z4B hx))) [capF Q]
   rw[(hen id).2.1]at hn;exact⟨n,fr',[],w',hn,rfl,hfn,v,hl,hrd'⟩)
 have hw:Play P true 0 X.G _ [] X.O (Conc.G (Frame.enter P f vs .normal) ([]++cs)) w:=(hXP id)▸hw;refine FM hw rfl _ cs w rfl rfl rfl (Z4A _) (λ_ _=>rfl) (λb hb=>hb.elim) (λb hb=>hG b hb.1) λO fr' cs' w' hst e1 e2 e3 e4 e5=> ?_;obtain⟨ρ,t,fr2,cs2,wl',fc,cc,hg,hid,⟨rfl,hfn,v,⟨h1,h2,h3,fn',h4,h5⟩,hrd'⟩,hwv⟩:=hst;injection hg with q1 q2;subst q1 q2;have htop:fr'=renF ρ fr2:=hwv.top;have hund:cs'=cs:=hwv.under;subst hund;have hff:fr'.fn=f:=by rw[htop];exact hfn
 have hfn':fn'=fn:=by rw[hfn,hq]at h4;exact(Z6c h4).symm
 subst hfn';refine hk fr' w' hff ⟨by rw[htop];show renM ρ fr2.mode=_;rw[h1];rfl,by rw[htop];show fr2.defers.map _=_;rw[h2];rfl,by rw[htop];exact h3,fn',by rw[hff];exact hpf,λd=> ?_⟩;have hwr:(X.at ρ).WR wl' (w'.at d):=OO hwv.wr d;have hlook:=R8 fn' (fr2.tmps.map (ren ρ));have hwd:wdR ((results fn' (fr2.tmps.map (ren ρ))).run P (w'.at d))=w'.at d:=hlook.world _
 have htold:=(UQ (X:=X.at ρ) (V:=[]) fn' fr2.tmps).run wl' (w'.at d) #[] hwr (λr hr=>by simp at hr)
  (λj hj=>by
   rw[hXP ρ]at hj;have e:(wdR ((results fn' (fr2.tmps.map (ren (X.at ρ).ρ))).run P (w'.at d))).drawn=(w'.at d).drawn:=Z5J World.drawn hwd;omega)
  (λj hj=>by
   rw[hXP ρ]at hj;have e:(wdR ((results fn' (fr2.tmps.map (ren (X.at ρ).ρ))).run P (w'.at d))).heap.size=(w'.at d).heap.size:=Z5J (λw=>w.heap.size) hwd;omega)
 have h5':(results fn' fr2.tmps).run (X.at ρ).Q wl'=.ok v wl':=h5;rw[h5',hXP ρ]at htold;obtain⟨b,wc',es',he,hb',haf⟩:=htold
 have hrun:(results fn' (fr2.tmps.map (ren ρ))).run P (w'.at d)=.ok b wc':=by
  have:=Z5J Prod.fst he;rw[Z6r]at this;exact this
 have hwc:wc'=w'.at d:=by
  have:=hwd;rw[hrun]at this;exact this
 subst hwc;have hb'':b=ren ρ v:=hb';refine⟨b,by rw[htop];exact hrun,b,rfl,⟨(Z5J Prod.fst e1).symm,e2.symm,(Z5J Prod.snd e1).symm,e3,e4⟩,?_⟩;rw[hb''];refine(Mr hwr hrd' hr).mono λb' hb1=> ?_;obtain⟨x,hx,rfl⟩:=hb1;obtain⟨q1,q2⟩|⟨q1,q2⟩:=hx
 ·left;have:(X.at ρ).ρ x=x:=hid x (Z4F (hG x q2) hn0);rw[this];exact⟨q1,q2⟩
 ·right;rw[hmz]at q1;have:=e5 _ (hwv.own x (.inl q1) q2);exact this
end Vm
end
section
namespace Vm
open Go Go.Conc Go.ConcN
def Rj{P:Program}:∀(k:Nat) {g:Goroutine},QuitsIn P k g->g.LeavesIn P k
 |0,g,h=>h
 |k+1,g,h=>by
  obtain h|⟨h1,g',h2,h3⟩:=h
  ·exact .inl h
  ·exact .inr ⟨g',⟨h1, #[],λe he=>by simp at he,h2⟩,Rj k h3⟩
def qj{P:Program}(w:World):∀(k:Nat) {g:Goroutine},QuitsIn P k g->g.endsWith P w k 0=some 0
 |0,g,h=>by
  have h:g.status=.finished:=h;unfold Goroutine.endsWith;rw[h]
 |k+1,g,h=>by
  unfold Goroutine.endsWith;obtain h|⟨h1,g',h2,h3⟩:=h
  ·rw[h]
  ·rw[h1,h2 w];exact qj w k h3
def TBt.over{sz:Nat}{t:Trace}(h:TBt sz t):t.HandedOver:=by
 intro i g hg hne hc;obtain⟨x,hx,hm,_⟩:=hc;obtain⟨op,hop,hox⟩:=touch_of hx;obtain⟨j,y,hy,hy0,hb⟩:=h.known i op x hop hox hm;have hg0:t.g? j=some 0:=by simp[Trace.g?,hy,hy0]
 refine⟨j,hg0,?_⟩;obtain rfl|hb:=hb
 ·rw[hg]at hg0;exact absurd (Z6c hg0) hne
 ·exact hb
def Dd{P:Program}{fr:Frame}{w:World}{fn:Func}{v:Value}(h1:fr.mode=.returning)(h2:fr.defers=[])(h3:fr.kind=.normal)(h4:P.funcs[fr.fn]?=some fn)(h5:(results fn fr.tmps).run P w=.ok v w)(hi:P.inits.idxOf? fr.fn=none):
  stepG P true (G fr []) w=.ended (.done v) w (seen P fr.fn ((results fn fr.tmps).events P w #[])):=by
 simp[G,stepG,unwind,doReturn,h1,h2,h3,h4,h5,hi,GStep.after]
def EndsW(P:Program)(Post:Value->World->Prop)(gs:Array Goroutine)(w:World)(sl:Option (Nat×Nat))(t:Trace):Prop:=
 ∃N last tl o w' ops,runNT P N (crowd gs w sl) t=(.next last,tl)/\stepT P last=(.ended o w',ops)/\Good P Post last o w' (tl++ops)
def EndsW.step{P:Program}{Post:Value->World->Prop}{gs gs1:Array Goroutine}{w w1:World}{sl sl1:Option (Nat×Nat)}{t:Trace}{ops:Array MemOp}(h:stepT P (crowd gs w sl)=(.next (crowd gs1 w1 sl1),ops))(k:EndsW P Post gs1 w1 sl1 (t++ops)):EndsW P Post gs w sl t:=by
 obtain⟨N,last,tl,o,w',ops',h1,h2⟩:=k;exact⟨N+1,last,tl,o,w',ops',by simp only[runNT,h];exact h1,h2⟩
def N3{P:Program}{Post:Value->World->Prop}{fr:Frame}{gs:Array Goroutine}{w:World}{sl:Option (Nat×Nat)}{t:Trace}{q:Nat->Nat}(hi:P.inits.idxOf? fr.fn=none)(hl:Lvs P gs.size gs q)(h0:gs[0]?=some (G fr []))(ht:TBt w.heap.size t)(hL:Leaves P fr w Post):EndsW P Post gs w sl t:=by
 have hnone:∀(gs':Array Goroutine) g,gs'[gs'.size]? ≠some g:=λgs' g e=>by
  have:=(Z4z.1 e).1;omega
 obtain⟨h1,h2,h3,fn,h4,h5⟩:=hL;refine Z0D (Wn:=EndsW P Post) EndsW.step hl (λi g hi hg=> ?_) ⟨0,_,.inl rfl,h0,rfl⟩ λgs' d0 sl0 d sl' q' i g hst hsz' hsame hl' hi' hgi hrun=> ?_
 ·obtain rfl|rfl:=hi
  ·rw[h0]at hg;cases hg;exact⟨awake_of (.inl rfl),λg1 g2 d=>woken_run rfl⟩
  ·exact absurd hg (hnone gs g)
 ·obtain rfl|rfl:=hi'
  ·have h0':gs'[0]?=some (G fr []):=by rw[hsame 0 (.inl rfl)];exact h0
   obtain⟨v,hv,hp⟩:=h5 d;have he:=runT_crowd_ended (P:=P) (sl:=sl') (i:=0) h0' (Dd h1 h2 h3 h4 hv hi)
   have hev:EvsB (w.at d).heap.size (seen P fr.fn ((results fn fr.tmps).events P (w.at d) #[])):=λe he=>by
    have:=XJ (P:=P) (R0 fn fr.tmps) (w.at d) e (mem_seen he);rw[hv]at this;exact this
   have ht':TBt (w.at d).heap.size (t++MemOp.ofEvents 0 fr.fn (G fr []).frame.place (seen P fr.fn ((results fn fr.tmps).events P (w.at d) #[]))):=ht.main (Z4A _) hev;refine⟨0,crowd gs' (w.at d0) sl0,t,.done v,w.at d,_,rfl,hst.trans he,v,rfl,hp,ht'.clean,ht'.over,⟨λg hg=> ?_,rfl⟩,λi g hgi hi0=> ?_⟩
   ·have hg:g∈gs'.toList.drop 1:=hg;obtain⟨j,hj,rfl⟩:=List.mem_iff_getElem.1 hg;have hj':j< (gs'.toList.drop 1).length:=hj;simp only[Z6M,Z6I]at hj';have e:(gs'.toList.drop 1)[j]=gs'[j+1]'Z0:=by simp[Z7u]
    rw[e];have:=hl' (j+1) (gs'[j+1]'Z0) Z0 Z0 (Z4X Z0);exact⟨_,Rj _ this⟩
   ·have hlt:=(Z4z.1 hgi).1;have hlt:i<gs'.size:=hlt;have:=hl' i g Z0 Z0 hgi;refine⟨q' i,?_⟩;have hd:=ht'.hears i;have hd:Trace.deaf _ i _=0:=hd;have hq:=qj (crowd gs' (w.at d0) sl0).world _ this;rw[<-hd]at hq;exact hq.trans (Z5J some hd)
  ·rw[<-hsz']at hgi;exact absurd hgi (hnone gs' g)
def Lu{P:Program}{f:FuncId}{args:Array Value}{W:World}{Post:Value->World->Prop}(hi:P.inits.idxOf? f=none)(h:DN P f args W λe w'=>∃v,e=.returned v/\Post v w'):
  ∃M last o w' t',runNT P (M+1) (solo (G (Frame.enter P f args .normal) []) W) #[]=(.ended o w',t')/\runN P M (solo (G (Frame.enter P f args .normal) []) W)=.next last/\step P last=.ended o w'/\Good P Post last o w' t':=by
 have hw:Walk P (λfr cs w=>cs=[]/\fr.fn=f/\Leaves P fr w Post) (Frame.enter P f args .normal) [] W:=h [] _ λfr w' hfn ⟨h1,h2,h3,fn,h4,h5⟩=>.stop λd=>⟨rfl,hfn,h1,h2,h3,fn,h4,λd'=>by
  obtain⟨v,hv,v',e,hp⟩:=h5 d';cases e;exact⟨v,hv,hp⟩⟩
 have hwin:=hw W.drawn #[G (Frame.enter P f args .normal) []] none #[] (λ_=>0) (λi g h1 h2 h3=>by
   have:=(Z4z.1 h3).1;simp at this h2;omega) rfl ⟨λsaid=> ?_,λi=>rfl,λop hop=>by simp at hop,λi op x hi=>Z43⟩
 ·obtain⟨N,gs,w,sl,t,hr,fr,cs,q,h0,⟨rfl,rfl,hL⟩,hl,ht⟩:=hwin;obtain⟨N',last,tl,o,w',ops,k1,k2,k3⟩:=N3 (sl:=sl) hi hl h0 ht hL;have k4:runNT P (N+N') (solo (G (Frame.enter P fr.fn args .normal) []) W) #[]=(.next last,tl):=TR N hr k1;refine⟨N+N',last,o,w',tl++ops,?_,?_,?_,k3⟩
  ·refine TR (K:=1) (N+N') k4 ?_;simp only[runNT,k2]
  ·rw[<-runNT_fst _ _ _ #[],k4]
  ·rw[<-stepT_fst,k2]
 ·rintro⟨i,j,_,⟨a,b,ha,_⟩,_⟩;simp[Trace.act?]at ha
end Vm
end
section
namespace Vm
open Go Go.Conc
def Cl(v:Value):Prop:=∀ρ,ren ρ v=v
def Cl.fix{v:Value}(h:Cl v):FixV 0 v:=λρ _=>h ρ
def DT{cs:Array Value}(h:∀v∈cs,Cl v):Cl (.agg cs):=λρ=>by rw[Yh,Vb λx hx=>h x hx ρ]
def AQ{v:Value}(h:Cl v):∀x∈v.cells,Cl x:=by
 cases v with
 |agg cs=>
  intro x hx ρ;have:=h ρ;rw[Yh]at this;injection this with this;obtain⟨i,hi⟩:=Array.getElem?_of_mem (show x∈cs from hx);have h2:(cs.map (ren ρ))[i]?=cs[i]? :=by rw[this]
  rw[Z50,hi]at h2;exact Z6c h2
 |_=>intro x hx;have:x=_:=(by simpa[Value.cells]using hx);rw[this];exact h
def zY{α β:Type}{Q:β->Prop}{f:α->β->Option (ForInStep β)}(hf:∀a b s,Q b->f a b=some s->match s with|.done b=>Q b|.yield b=>Q b):∀(l:List α) (b b':β),Q b->forIn l b f=some b'->Q b'
 | [],b,b',h,e=>by
   simp only[List.forIn_nil,pure,Z4s]at e;rw[<-e];exact h
 |a::l,b,b',h,e=>by
  rw[List.forIn_cons]at e;obtain⟨s,hs,e⟩:=Z4t.1 e;have:=hf a b s h hs;cases s with
  |done c=>simp only[pure,Z4s]at e;rw[<-e];exact this
  |yield c=>exact zY hf l c b' this e
def ZOk(i:TypeInfo):Prop:=∀z,i.zero=some z->Cl z
def Dt{info:TypeId->Option TypeInfo}(hI:∀t i,info t=some i->ZOk i){fs:Array Field}{i:TypeInfo}(h:Made.reckonStruct info fs=some i):ZOk i:=by
 unfold Made.reckonStruct at h;dsimp only at h;rw[<-Array.forIn_toList]at h;obtain⟨r,hr,h⟩:=Z4t.1 h
 have hq:=zY (Q:=λr=>∀zs,r.2.2.2.2.2.2.2.1=some zs->∀v∈zs,Cl v) (λa b s hQ hs=>by
  obtain⟨i,hi,hs⟩:=Z4t.1 hs
  have fin:∀zs,(if b.2.1+i.size>Made.mostCells then none else do pure ((<-b.2.2.2.2.2.2.2.1)++(<-i.zero).cells):Option (Array Value))=some zs->∀v∈zs,Cl v:=λzs hz=>by
   split at hz
   ·cases hz
   ·obtain⟨z0,h0,hz⟩:=Z4t.1 hz;obtain⟨z1,h1,hz⟩:=Z4t.1 hz;cases hz;intro v hv;obtain hv|hv:=Z60.1 hv
    ·exact hQ z0 h0 v hv
    ·exact AQ (hI _ i hi z1 h1) v hv
  clear hQ hI hr h
  revert fin
  generalize (if b.2.1+i.size>Made.mostCells then none else do pure ((<-b.2.2.2.2.2.2.2.1)++(<-i.zero).cells):Option (Array Value))=Z at hs⊢;intro fin;split at hs
  ·cases hs
  ·split at hs
   ·cases hs
   ·split at hs
    ·obtain⟨tag,_,hs⟩:=Z4t.1 hs;split at hs
     ·cases hs;exact fin
     ·cases hs;exact fin
    ·obtain⟨tag,_,hs⟩:=Z4t.1 hs;split at hs
     ·cases hs;exact fin
     ·cases hs;exact fin) _ _ _ (λzs hz=>by cases hz;intro v hv;simp at hv) hr
 have key:∀ {z:Value},r.2.2.2.2.2.2.2.1.map Value.agg=some z->Cl z:=λhz=>by
  obtain⟨zs,h1,rfl⟩:=Z4w.1 hz;exact DT (hq zs h1)
 split at h
 ·cases h;exactλz hz=>key hz
 ·cases h;exactλz hz=>key hz
def S9{d:TypeDesc}{s:String}{v:Value}{b:Bool}{n:Nat}(h:Cl v):ZOk (Made.word d s v b n):=λz hz=>by
 cases hz;exact h
def Ds{info:TypeId->Option TypeInfo}(hI:∀t i,info t=some i->ZOk i){d:TypeDesc}{i:TypeInfo}(h:Made.reckon info d=some i):ZOk i:=by
 cases d with
 |struct fs=>exact Dt hI h
 |pointer e=>
  obtain⟨x,hx,h⟩:=Z4t.1 h
  have w:∀ {s},(do pure (Made.word (.pointer e) ("*" ++(<-s)) (.pointer none) true):Option TypeInfo)=some i->ZOk i:=λh=>by
   obtain⟨y,_,h⟩:=Z4t.1 h;cases h;exact S9 λρ=>Xx ρ
  split at h
  ·cases h
  ·split at h
   ·cases h
   ·exact w h
  ·exact w h
 |slice e=>
  obtain⟨x,hx,h⟩:=Z4t.1 h;obtain⟨y,_,h⟩:=Z4t.1 h;cases h;exact S9 λρ=>by simp[ren]
 |map k e=>
  obtain⟨x,hx,h⟩:=Z4t.1 h;obtain⟨y,_,h⟩:=Z4t.1 h;obtain⟨x2,_,h⟩:=Z4t.1 h;obtain⟨y2,_,h⟩:=Z4t.1 h;cases h;exact S9 λρ=>by simp[ren]
 |chan d e=>
  obtain⟨x,hx,h⟩:=Z4t.1 h;obtain⟨y,_,h⟩:=Z4t.1 h;cases h;exact S9 λρ=>by simp[ren]
 |func ps rs v=>
  obtain⟨x,hx,h⟩:=Z4t.1 h;cases h;exact S9 λρ=>Vh ρ
 |array n e=>
  obtain⟨x,hx,h⟩:=Z4t.1 h;obtain⟨y,_,h⟩:=Z4t.1 h;cases h;intro z hz;dsimp only at hz;split at hz
  ·cases hz
  ·split at hz
   ·cases hz;exact DT λv hv=>by simp at hv
   ·obtain⟨z0,h0,rfl⟩:=Z4w.1 hz;refine DT λv hv=> ?_;obtain⟨a,ha,hv⟩:=Array.mem_flatten.1 hv;rw[(Array.mem_replicate.1 ha).2]at hv;exact AQ (hI e x hx z0 h0) v hv
 |_=>cases h
def ME{T:Tables}(hT:∀(t:TypeId) (i:TypeInfo),T.types[t]?=some i->ZOk i):∀(n:Nat) (t:TypeId) (i:TypeInfo),Made.infoAt T n t=some i->ZOk i
 |0,t,i,h=>Z3V
 |n+1,t,i,h=>by
  unfold Made.infoAt at h;split at h
  ·exact hT t i h
  ·obtain⟨d,_,h⟩:=Z4t.1 h;exact Ds (λt i h=>ME hT n t i h) h
def MD(l:List TypeInfo):Bool:=l.all λi=>match i.zero with|some z=>still 9 z|none=>true
def IV{P:Program}(h:MD P.types.toList=true){t:TypeId}{i:TypeInfo}(hi:P.info? t=some i):ZOk i:=by
 have hT:∀(t:TypeId) (i:TypeInfo),P.types[t]?=some i->ZOk i:=λt i ht z hz ρ=>by
  have:=Z4D.1 h i (by simpa using Z69 ht);rw[hz]at this;exact VV ρ 9 z this
 have hi:(if t<P.types.size then P.types[t]? else Made.infoAt P.toTables Made.depth t)=some i:=hi;split at hi
 ·exact hT t i hi
 ·exact ME hT _ _ _ hi
def refF(fn:Func):Func:= {fn with name:= "?",origin:= "?",body:=none}
def Vs(P:Program)(l:List Nat):Program:= {P with globals:=#[],funcs:=P.funcs.mapIdx λi fn=>if l.contains i then refF fn else fn}
def Z5{P:Program}{l:List Nat}{f:Nat}{fn:Func}(h:P.funcs[f]?=some fn)(hl:l.contains f=false):(Vs P l).funcs[f]?=some fn:=by
 simp only[Vs,Z7q,h,hl,Z4K,Z4G,Z5h]
def Bn(Q:Program)(l:List Nat):List Func->Nat->Bool
 | [],_=>true
 |fn::fs,i=>(l.contains i||(!(fn.name== "runtime.NumGoroutine")&&(match fn.body with|some c=>ZL Q false c|none=>false)))&&Bn Q l fs (i+1)
def yU{Q:Program}{l:List Nat}:∀ {fs:List Func} {i j:Nat} {fn:Func},Bn Q l fs i=true->fs[j]?=some fn->l.contains (i+j)=true\/((fn.name== "runtime.NumGoroutine")=false/\∃c,fn.body=some c/\ZL Q false c=true)
 | [],i,j,fn,_,h=>Z4q
 |g::fs,i,j,fn,hk,h=>by
  simp only[Bn,Z4x,Z4L,Z5m]at hk;obtain⟨h1,h2⟩:=hk;cases j with
  |zero=>
   simp only[Z6e,Z4s]at h;subst h;obtain h1|⟨h1,h3⟩:=h1
   ·exact .inl h1
   ·refine .inr ⟨h1,?_⟩;split at h3
    ·exact⟨_,by assumption,h3⟩
    ·cases h3
  |succ j=>
   rw[Z7g]at h;have:=yU h2 h;rwa[show i+1+j=i+(j+1)by omega]at this
def IF{P:Program}{l:List Nat}(hz:MD P.types.toList=true)(hk:Bn (Vs P l) l P.funcs.toList 0=true):Sub P (Vs P l):=by
 refine⟨rfl,rfl,λt i z h1 h2=>Cl.fix (IV (P:=Vs P l) hz h1 z h2),λf fn hf=> ?_⟩;simp only[Vs,Z7q]at hf;obtain⟨g,hg,rfl⟩:=Z4w.1 hf;by_cases hl:l.contains f=true
 ·rw[if_pos hl];exact .inl ⟨rfl,rfl,rfl⟩
 ·rw[if_neg hl];obtain h|⟨h1,h2⟩:=yU hk (show P.funcs.toList[f]?=some g by simpa using hg)
  ·rw[Z5g]at h;exact absurd h hl
  ·exact .inr ⟨h1,hg,h2⟩
end Vm
end
section
namespace Vm
open Go Go.Proofs
def TZ(P:Program)(l:List Nat)(t:TypeId):(Vs P l).underlying t=P.underlying t:=Cx.P_under {Q:=P,fs:=(Vs P l).funcs,gs:=#[],ρ:=id,n0:=0,G:=λ_=>False,O:=λ_=>False,KL:=λ_=>False,KD:=λ_=>False} t
def Gj(P:Program)(l:List Nat)(t:TypeId):(Vs P l).info? t=P.info? t:=Cx.P_info {Q:=P,fs:=(Vs P l).funcs,gs:=#[],ρ:=id,n0:=0,G:=λ_=>False,O:=λ_=>False,KL:=λ_=>False,KD:=λ_=>False} t
def L1(P:Program)(l:List Nat)(t:TypeId)(w:World):(typeInfo t).run (Vs P l) w=(typeInfo t).run P w:=by
 unfold typeInfo;simp only[Z54,Z6g,Z51,Gj];cases P.info? t<;>simp only[stuck,Z6E,Sem.run]
def qH(P:Program)(l:List Nat)(t:TypeId)(w:World):(underlying t).run (Vs P l) w=(underlying t).run P w:=by
 unfold underlying;simp only[Z54,Z6g,Z51,TZ];cases P.underlying t<;>simp only[stuck,Z6E,Sem.run]
def D9(P:Program)(l:List Nat)(t:TypeId)(w:World):(Go.sizeOf t).run (Vs P l) w=(Go.sizeOf t).run P w:=by
 unfold Go.sizeOf;simp only[Z54,L1];cases(typeInfo t).run P w<;>simp only[Result.andThen,Z6E]
def Gk(P:Program)(l:List Nat)(t:TypeId)(w:World):(isAgg t).run (Vs P l) w=(isAgg t).run P w:=by
 unfold isAgg;simp only[Z54,qH];cases(underlying t).run P w with
 |ok d w'=>cases d<;>simp only[Z51,Z6E]
 |halt h w'=>simp only[Result.andThen]
def Mu(P:Program)(t:TypeId)(w:World):(zeroValue t).run P w=((typeInfo t).run P w).andThen λi w'=>match i.zero with|some v=>.ok v w'|none=>.halt (.unsupported (.resourceLimit "a value of more than 2^22 cells")) w':=by
 unfold zeroValue;rw[Z54];refine Z5J _ (funext λi=>funext λw'=> ?_);cases i.zero with
 |none=>rfl
 |some v=>rfl
def Da(P:Program)(l:List Nat)(t:TypeId)(w:World):(zeroValue t).run (Vs P l) w=(zeroValue t).run P w:=by
 rw[Mu,Mu,L1]
def ZF{P:Program}{f:FuncId}{fn:Func}(h:P.funcs[f]?=some fn)(hb:fn.body.isNone=false)(hn:(fn.name== "runtime.NumGoroutine")=false)(args:Array Value)(w:World):(callFunc f args).run P w=.ok (.enter f args) w:=by
 unfold callFunc;simp only[Z54,Z6g,Z51,h,hb,hn,Z4G,Z5h];rfl
namespace Sol
def no:List Nat:=[0,1,15,136,137,138,139,140,141,142,143,144,145,146,147,148,149,150,151]
noncomputable def prog:Program:=Vs Try.prog no
@[simp]def und(t:TypeId):prog.underlying t=Try.prog.underlying t:=TZ _ _ t
@[simp]def rUnd(t:TypeId)(w:World):(underlying t).run prog w=(underlying t).run Try.prog w:=qH _ _ t w
@[simp]def Z3I(t:TypeId)(w:World):(Go.sizeOf t).run prog w=(Go.sizeOf t).run Try.prog w:=D9 _ _ t w
@[simp]def rAgg(t:TypeId)(w:World):(isAgg t).run prog w=(isAgg t).run Try.prog w:=Gk _ _ t w
@[simp]def Z3J(t:TypeId)(w:World):(zeroValue t).run prog w=(zeroValue t).run Try.prog w:=Da _ _ t w
@[simp]def rt:prog.rt=Try.prog.rt:=rfl
@[simp]def main:prog.main=Try.prog.main:=rfl
@[simp]def func16:prog.funcs[16]?=some Try.f16:=Z5 Try.func16 rfl
@[simp]def func17:prog.funcs[17]?=some Try.f17:=Z5 Try.func17 rfl
@[simp]def func18:prog.funcs[18]?=some Try.f18:=Z5 Try.func18 rfl
@[simp]def func19:prog.funcs[19]?=some Try.f19:=Z5 Try.func19 rfl
@[simp]def Z32(args:Array Value)(w:World):(callFunc 19 args).run prog w=.ok (.enter 19 args) w:=ZF func19 rfl rfl args w
@[simp]def func21:prog.funcs[21]?=some Try.f21:=Z5 Try.func21 rfl
@[simp]def func23:prog.funcs[23]?=some Try.f23:=Z5 Try.func23 rfl
@[simp]def func24:prog.funcs[24]?=some Try.f24:=Z5 Try.func24 rfl
@[simp]def func25:prog.funcs[25]?=some Try.f25:=Z5 Try.func25 rfl
@[simp]def func26:prog.funcs[26]?=some Try.f26:=Z5 Try.func26 rfl
@[simp]def func27:prog.funcs[27]?=some Try.f27:=Z5 Try.func27 rfl
@[simp]def Z33(args:Array Value)(w:World):(callFunc 27 args).run prog w=.ok (.enter 27 args) w:=ZF func27 rfl rfl args w
@[simp]def func28:prog.funcs[28]?=some Try.f28:=Z5 Try.func28 rfl
@[simp]def func29:prog.funcs[29]?=some Try.f29:=Z5 Try.func29 rfl
@[simp]def func31:prog.funcs[31]?=some Try.f31:=Z5 Try.func31 rfl
@[simp]def func32:prog.funcs[32]?=some Try.f32:=Z5 Try.func32 rfl
@[simp]def func35:prog.funcs[35]?=some Try.f35:=Z5 Try.func35 rfl
@[simp]def func42:prog.funcs[42]?=some Try.f42:=Z5 Try.func42 rfl
@[simp]def func43:prog.funcs[43]?=some Try.f43:=Z5 Try.func43 rfl
@[simp]def func44:prog.funcs[44]?=some Try.f44:=Z5 Try.func44 rfl
@[simp]def Z34(args:Array Value)(w:World):(callFunc 44 args).run prog w=.ok (.enter 44 args) w:=ZF func44 rfl rfl args w
@[simp]def func45:prog.funcs[45]?=some Try.f45:=Z5 Try.func45 rfl
@[simp]def func46:prog.funcs[46]?=some Try.f46:=Z5 Try.func46 rfl
@[simp]def func47:prog.funcs[47]?=some Try.f47:=Z5 Try.func47 rfl
@[simp]def func48:prog.funcs[48]?=some Try.f48:=Z5 Try.func48 rfl
@[simp]def func49:prog.funcs[49]?=some Try.f49:=Z5 Try.func49 rfl
@[simp]def func50:prog.funcs[50]?=some Try.f50:=Z5 Try.func50 rfl
@[simp]def func51:prog.funcs[51]?=some Try.f51:=Z5 Try.func51 rfl
@[simp]def func52:prog.funcs[52]?=some Try.f52:=Z5 Try.func52 rfl
@[simp]def func53:prog.funcs[53]?=some Try.f53:=Z5 Try.func53 rfl
@[simp]def func54:prog.funcs[54]?=some Try.f54:=Z5 Try.func54 rfl
@[simp]def func55:prog.funcs[55]?=some Try.f55:=Z5 Try.func55 rfl
@[simp]def func56:prog.funcs[56]?=some Try.f56:=Z5 Try.func56 rfl
@[simp]def func57:prog.funcs[57]?=some Try.f57:=Z5 Try.func57 rfl
@[simp]def func58:prog.funcs[58]?=some Try.f58:=Z5 Try.func58 rfl
@[simp]def Z35(args:Array Value)(w:World):(callFunc 58 args).run prog w=.ok (.enter 58 args) w:=ZF func58 rfl rfl args w
@[simp]def func59:prog.funcs[59]?=some Try.f59:=Z5 Try.func59 rfl
@[simp]def Z36(args:Array Value)(w:World):(callFunc 59 args).run prog w=.ok (.enter 59 args) w:=ZF func59 rfl rfl args w
@[simp]def func60:prog.funcs[60]?=some Try.f60:=Z5 Try.func60 rfl
@[simp]def Z37(args:Array Value)(w:World):(callFunc 60 args).run prog w=.ok (.enter 60 args) w:=ZF func60 rfl rfl args w
@[simp]def func62:prog.funcs[62]?=some Try.f62:=Z5 Try.func62 rfl
@[simp]def func63:prog.funcs[63]?=some Try.f63:=Z5 Try.func63 rfl
@[simp]def func64:prog.funcs[64]?=some Try.f64:=Z5 Try.func64 rfl
@[simp]def Z38(args:Array Value)(w:World):(callFunc 64 args).run prog w=.ok (.enter 64 args) w:=ZF func64 rfl rfl args w
@[simp]def func65:prog.funcs[65]?=some Try.f65:=Z5 Try.func65 rfl
@[simp]def func69:prog.funcs[69]?=some Try.f69:=Z5 Try.func69 rfl
@[simp]def Z39(args:Array Value)(w:World):(callFunc 69 args).run prog w=.ok (.enter 69 args) w:=ZF func69 rfl rfl args w
@[simp]def func75:prog.funcs[75]?=some Try.f75:=Z5 Try.func75 rfl
@[simp]def Z3a(args:Array Value)(w:World):(callFunc 75 args).run prog w=.ok (.enter 75 args) w:=ZF func75 rfl rfl args w
@[simp]def func76:prog.funcs[76]?=some Try.f76:=Z5 Try.func76 rfl
@[simp]def func77:prog.funcs[77]?=some Try.f77:=Z5 Try.func77 rfl
@[simp]def func78:prog.funcs[78]?=some Try.f78:=Z5 Try.func78 rfl
@[simp]def func79:prog.funcs[79]?=some Try.f79:=Z5 Try.func79 rfl
@[simp]def func80:prog.funcs[80]?=some Try.f80:=Z5 Try.func80 rfl
@[simp]def func81:prog.funcs[81]?=some Try.f81:=Z5 Try.func81 rfl
@[simp]def func82:prog.funcs[82]?=some Try.f82:=Z5 Try.func82 rfl
@[simp]def func83:prog.funcs[83]?=some Try.f83:=Z5 Try.func83 rfl
@[simp]def Z3b(args:Array Value)(w:World):(callFunc 83 args).run prog w=.ok (.enter 83 args) w:=ZF func83 rfl rfl args w
@[simp]def func90:prog.funcs[90]?=some Try.f90:=Z5 Try.func90 rfl
@[simp]def func91:prog.funcs[91]?=some Try.f91:=Z5 Try.func91 rfl
@[simp]def func93:prog.funcs[93]?=some Try.f93:=Z5 Try.func93 rfl
@[simp]def func94:prog.funcs[94]?=some Try.f94:=Z5 Try.func94 rfl
@[simp]def Z3c(args:Array Value)(w:World):(callFunc 94 args).run prog w=.ok (.enter 94 args) w:=ZF func94 rfl rfl args w
@[simp]def func99:prog.funcs[99]?=some Try.f99:=Z5 Try.func99 rfl
@[simp]def func100:prog.funcs[100]?=some Try.f100:=Z5 Try.func100 rfl
@[simp]def func101:prog.funcs[101]?=some Try.f101:=Z5 Try.func101 rfl
@[simp]def func102:prog.funcs[102]?=some Try.f102:=Z5 Try.func102 rfl
@[simp]def func103:prog.funcs[103]?=some Try.f103:=Z5 Try.func103 rfl
@[simp]def func104:prog.funcs[104]?=some Try.f104:=Z5 Try.func104 rfl
@[simp]def func105:prog.funcs[105]?=some Try.f105:=Z5 Try.func105 rfl
@[simp]def func106:prog.funcs[106]?=some Try.f106:=Z5 Try.func106 rfl
@[simp]def func107:prog.funcs[107]?=some Try.f107:=Z5 Try.func107 rfl
@[simp]def func108:prog.funcs[108]?=some Try.f108:=Z5 Try.func108 rfl
@[simp]def func109:prog.funcs[109]?=some Try.f109:=Z5 Try.func109 rfl
@[simp]def func110:prog.funcs[110]?=some Try.f110:=Z5 Try.func110 rfl
@[simp]def func113:prog.funcs[113]?=some Try.f113:=Z5 Try.func113 rfl
@[simp]def func116:prog.funcs[116]?=some Try.f116:=Z5 Try.func116 rfl
@[simp]def func117:prog.funcs[117]?=some Try.f117:=Z5 Try.func117 rfl
@[simp]def func118:prog.funcs[118]?=some Try.f118:=Z5 Try.func118 rfl
@[simp]def func119:prog.funcs[119]?=some Try.f119:=Z5 Try.func119 rfl
@[simp]def func120:prog.funcs[120]?=some Try.f120:=Z5 Try.func120 rfl
@[simp]def func121:prog.funcs[121]?=some Try.f121:=Z5 Try.func121 rfl
@[simp]def func122:prog.funcs[122]?=some Try.f122:=Z5 Try.func122 rfl
@[simp]def func123:prog.funcs[123]?=some Try.f123:=Z5 Try.func123 rfl
@[simp]def func124:prog.funcs[124]?=some Try.f124:=Z5 Try.func124 rfl
@[simp]def func125:prog.funcs[125]?=some Try.f125:=Z5 Try.func125 rfl
@[simp]def func126:prog.funcs[126]?=some Try.f126:=Z5 Try.func126 rfl
@[simp]def func127:prog.funcs[127]?=some Try.f127:=Z5 Try.func127 rfl
@[simp]def func128:prog.funcs[128]?=some Try.f128:=Z5 Try.func128 rfl
@[simp]def Z1N(args:Array Value)(w:World):(callFunc 128 args).run prog w=.ok (.enter 128 args) w:=ZF func128 rfl rfl args w
@[simp]def func129:prog.funcs[129]?=some Try.f129:=Z5 Try.func129 rfl
@[simp]def Z1O(args:Array Value)(w:World):(callFunc 129 args).run prog w=.ok (.enter 129 args) w:=ZF func129 rfl rfl args w
@[simp]def func130:prog.funcs[130]?=some Try.f130:=Z5 Try.func130 rfl
@[simp]def Z1P(args:Array Value)(w:World):(callFunc 130 args).run prog w=.ok (.enter 130 args) w:=ZF func130 rfl rfl args w
@[simp]def func131:prog.funcs[131]?=some Try.f131:=Z5 Try.func131 rfl
@[simp]def Z1Q(args:Array Value)(w:World):(callFunc 131 args).run prog w=.ok (.enter 131 args) w:=ZF func131 rfl rfl args w
@[simp]def func132:prog.funcs[132]?=some Try.f132:=Z5 Try.func132 rfl
@[simp]def func133:prog.funcs[133]?=some Try.f133:=Z5 Try.func133 rfl
@[simp]def Z1R(args:Array Value)(w:World):(callFunc 133 args).run prog w=.ok (.enter 133 args) w:=ZF func133 rfl rfl args w
@[simp]def func134:prog.funcs[134]?=some Try.f134:=Z5 Try.func134 rfl
@[simp]def Z1S(args:Array Value)(w:World):(callFunc 134 args).run prog w=.ok (.enter 134 args) w:=ZF func134 rfl rfl args w
@[simp]def func135:prog.funcs[135]?=some Try.f135:=Z5 Try.func135 rfl
@[simp]def Z1T(args:Array Value)(w:World):(callFunc 135 args).run prog w=.ok (.enter 135 args) w:=ZF func135 rfl rfl args w
def underlying23:=(TZ Try.prog no 23).trans Try.underlying23
def underlying29:=(TZ Try.prog no 29).trans Try.underlying29
def underlying35:=(TZ Try.prog no 35).trans Try.underlying35
def sub:Sub Try.prog prog:=IF Z2 Z2
end Sol
end Vm
end
