/- The walks of what reads an entry: class, member. -/
import Derived.Test.YtbcfpdlhieaepaaGreatDoorR36
import Derived.Deep.RegionLaw
namespace Go.Proofs.YtbcfpdlhieaepaaGreatDoor
section
open Go.RowKit SeedP Go.Maps
/-- what a method that reads an entry leaves -/
def ReadPost (B cb n:Nat) (f:Nat→Lab) (r:ContP × Bool) (w:World) (e:Ending) (w':World):Prop:=e=.returned (.bool r.2)∧(∃ f',CW w' B cb (n+3) r.1 f'∧Kp w w' f f' (fun x=>x ≠ .no))∧Below B w w'
theorem CV.cells {w:World} {B cb n:Nat} {c:ContP} {f:Nat→Lab} {m0 m4 m5:Nat} {v1 v2 v3:Value} (h:CV w B cb n c f m0 m4 m5 v1 v2 v3) :
 w.cell? ⟨cb,0,none⟩=some (.map (some m0))∧w.cell? ⟨cb,1,none⟩=some v1∧w.cell? ⟨cb,2,none⟩=some v2∧w.cell? ⟨cb,3,none⟩=some v3∧w.cell? ⟨cb,4,none⟩=some (.map (some m4))∧w.cell? ⟨cb,5,none⟩=some (.map (some m5))∧∀ o,w.frozen? ⟨cb,o,none⟩=false:=
 ⟨h.blk.cell 0 (by simp),h.blk.cell 1 (by simp),h.blk.cell 2 (by simp),h.blk.cell 3 (by simp),h.blk.cell 4 (by simp),h.blk.cell 5 (by simp),fun o=>h.blk.frozen o⟩
set_option maxRecDepth 100000 in
/-- class -/
theorem class_c {w:World} {B cb n:Nat} {c:ContP} {f:Nat→Lab} (rest val:List UInt8) (a:Option Addr) (cap:Nat) (h:CW w B cb n c f) (hn:n≤1000000) (hr:rest.length≤1000000) (hv:val.length≤1000000) :
 Calls Tryz.prog 78 #[.pointer (some ⟨cb,0,none⟩),strV rest,.slice a val.length cap] w (ReadPost B cb n f (clsStep c rest val) w):=by
 obtain ⟨m0,m4,m5,v1,v2,v3,h⟩:=h
 obtain ⟨c0, -, -, -, -, -, -⟩:=h.cells
 obtain ⟨q,hq,hs⟩:=h.seen
 have HV:=Lib.hid (fun W hs hg=>h.cls (w':=W) rest hq hs hg)
 have hb1:=h.base.2.1
 have hl1:=h.lab.2.1
 have HB:=Lib.hid (fun (W:World) (hg:Grown (·=m0) w W)=>KQ.mk (f:=f) (f':=f) (hg.below (B:=B) (fun k e=>by rw [e]; exact hb1) h.szB) ⟨hg.mono (fun k _ e=>by rw [e,hl1]; exact Lab.noConfusion),fun _ _ _=>rfl,fun g hg2=>h.fr g (Nat.le_trans hg.size hg2)⟩)
 have HN:=Lib.hid (fun w=>isName_c rest w)
 unfold ReadPost clsStep
 simp only
 generalize isNameP rest=b at *
 have hks:=str_size rest
 have hve:val.isEmpty=(((val.length:Nat):Int) == 0):=by cases val with
  | nil=>rfl
  | cons x r=>rw [List.isEmpty_cons]; symm; rw [beq_eq_false_iff_ne]; rw [List.length_cons]; omega
 rw [hve]
 clear h hb1 hl1 hve
 go_enter Tryz.func78,Tryz.ntmps78
 go_wp2_with (first | (refine wpList_seen rfl _ _ _ rfl hs (by unfold maxLen; omega) rfl rest (by unfold maxLen; omega) rfl rfl ?_; intro w1 hs1 hg1) | fail)
 have HV1:=Lib.hid (HV.out w1 hs1 hg1)
 have HB1:=Lib.hid (HB.out w1 hg1)
 clear HV HB hs hs1 hg1 c0
 cases b with
 | true=>
   go_wp2_with fail
   refine (HN.out _).mono ?_
   rintro e _ ⟨rfl,rfl⟩
   go_wp2
   go_ret
   exact ⟨by first | rfl | simp,⟨f,CW.mono ⟨m0,m4,m5,v1,v2,v3,HV1.out⟩ (by omega),HB1.out.kp⟩,HB1.out.bl⟩
 | false=>
   go_wp2_with fail
   refine (HN.out _).mono ?_
   rintro e _ ⟨rfl,rfl⟩
   go_wp2
   go_ret
   exact ⟨by first | rfl | simp,⟨f,CW.mono ⟨m0,m4,m5,v1,v2,v3,HV1.out⟩ (by omega),HB1.out.kp⟩,HB1.out.bl⟩
/-- the content's own cells stay, while a row of it grows -/
theorem CV.keepCb {w w2:World} {B cb n:Nat} {c:ContP} {f:Nat→Lab} {m0 m4 m5:Nat} {v1 v2 v3:Value} (h:CV w B cb n c f m0 m4 m5 v1 v2 v3) {l:Lab} {v:Value} (hl:Ow f l v) (hc:l ≠ .cell) (o:Obj) (hg:(w.alloc o).grownBy w2 v.ownBlock) :
 w2.cell? ⟨cb,0,none⟩=some (.map (some m0))∧w2.cell? ⟨cb,1,none⟩=some v1∧w2.cell? ⟨cb,2,none⟩=some v2∧w2.cell? ⟨cb,3,none⟩=some v3∧w2.cell? ⟨cb,4,none⟩=some (.map (some m4))∧w2.cell? ⟨cb,5,none⟩=some (.map (some m5))∧∀ o,w2.frozen? ⟨cb,o,none⟩=false:=by
 have hb:Blk w2 cb 134 [.map (some m0),v1,v2,v3,.map (some m4),.map (some m5)]:=by
  have h1:=h.blk.alloc o
  refine (hg.block cb h1.lt (fun e=>hc ?_)).trans h1
  have:=hl cb e.symm
  rw [h.lab.1] at this; exact this.symm
 exact ⟨hb.cell 0 (by simp),hb.cell 1 (by simp),hb.cell 2 (by simp),hb.cell 3 (by simp),hb.cell 4 (by simp),hb.cell 5 (by simp),fun o=>hb.frozen o⟩
theorem cutP_len:∀ l:List UInt8,(cutP l).1.length≤l.length∧(cutP l).2.1.length≤l.length
 | []=>⟨Nat.le_refl _,Nat.le_refl _⟩
 | c :: r=>by
   have ih:=cutP_len r
   unfold cutP
   split
   ·exact ⟨Nat.zero_le _,by simp⟩
   ·exact ⟨by simp; exact ih.1,by simp; omega⟩
set_option maxRecDepth 100000 in
/-- member -/
theorem member_c {w:World} {B cb n:Nat} {c:ContP} {f:Nat→Lab} (rest val:List UInt8) (a:Option Addr) (cap:Nat) (h:CW w B cb n c f) (hn:n≤1000000) (hr:rest.length≤1000000) (hv:val.length≤1000000) :
 Calls Tryz.prog 79 #[.pointer (some ⟨cb,0,none⟩),strV rest,.slice a val.length cap] w (ReadPost B cb n f (memStep c rest val) w):=by
 have hun:undef=Value.tuple #[]:=rfl
 obtain ⟨m0,m4,m5,v1,v2,v3,h⟩:=h
 have HC:=Lib.hid (cut_c rest w (by unfold maxLen; omega))
 have hil:=h.inC.1
 have HP:=Lib.hid (fun x W (hW:Below w.heap.size w W) W2 v' hr hg hv=>(h.below hW).inPut x (w1:=W.alloc (.cells #[strV x] 9)) (w2:=W2) ((Below.refl _ W).alloc (Nat.le_refl _) _) (v':=v') hr hg hv)
 have HCC:=Lib.hid (fun W (hW:Below w.heap.size w W)=>(h.below hW).cells)
 have HR:=Lib.hid (fun W (hW:Below w.heap.size w W)=>(h.below hW).inC.2)
 have HK:=Lib.hid (fun x W (hW:Below w.heap.size w W) W2 hg=>(h.below hW).keepCb (w2:=W2) h.o2 Lab.noConfusion (.cells #[strV x] 9) hg)
 have hsz:=h.szB
 have HB:=Lib.hid (fun x W (hW:Below w.heap.size w W) W2 v' hr hg hv=>((h.kqB hW).trans ((h.below hW).kq ((h.below hW).inPut x (w1:=W.alloc (.cells #[strV x] 9)) (w2:=W2) ((Below.refl _ W).alloc (Nat.le_refl _) _) (v':=v') hr hg hv).2 (fun e=>e.elim Lab.noConfusion Lab.noConfusion))))
 unfold ReadPost memStep
 simp only
 have HN1:=Lib.hid (fun w=>isName_c (cutP rest).1 w)
 have HN2:=Lib.hid (fun w=>isName_c (cutP rest).2.1 w)
 generalize (cutP rest).1=x1 at *
 generalize (cutP rest).2.1=x2 at *
 generalize (cutP rest).2.2=x3 at *
 generalize isNameP x1=b1 at *
 generalize isNameP x2=b2 at *
 have hve:val.isEmpty=(((val.length:Nat):Int) == 0):=by cases val with
  | nil=>rfl
  | cons x r=>rw [List.isEmpty_cons]; symm; rw [beq_eq_false_iff_ne]; rw [List.length_cons]; omega
 rw [hve]
 clear h hve
 go_enter Tryz.func79,Tryz.ntmps79
 go_wp2_with fail
 refine HC.out.mono ?_
 rintro e w1 ⟨rfl,hb1⟩
 obtain ⟨-, -,c2, -, -, -, -⟩:=HCC.out w1 hb1
 have hrow:=HR.out w1 hb1
 unfold ownS at hrow
 have hs1:=hb1.size
 have HB1:=Lib.hid hb1
 clear HC HCC HR hb1
 generalize hIL:c.inClass=IL at *
 have HIL:=Lib.hid hIL
 clear hIL
 go_upto_region 3 with (at_builtin; go_must (refine wpList_apG 42 9 _ 1 16 infoS Tryz.underlying42 rfl (by decide) rfl _ _ rfl B _ IL.length _ rfl (hrow.alloc _) w1.heap.size 1 [strV x1] rfl rfl (Blk.new w1 _ _) (by simp [Value.oneCell']) (by unfold maxLen; omega) (by omega) (by simp; omega) ?_); intro v' w2 hn2 hg2 hi2; obtain ⟨av,cv,rfl⟩:=own_slice hn2; obtain ⟨-, -,k2, -, -, -,kf⟩:=HK.out _ _ HB1.out _ hg2)
 have HF:=Lib.hid (HP.out x1 w1 HB1.out w2 _ hn2 hg2 hi2).1
 have HBF:=Lib.hid (HB.out x1 w1 HB1.out w2 _ hn2 hg2 hi2)
 clear HP HB HK hn2 hg2 hi2 hrow k2 kf c2
 have fin:∀ W,Below (w2.setCell ⟨cb,2,none⟩ (.slice av (IL.length+1) cv)).heap.size (w2.setCell ⟨cb,2,none⟩ (.slice av (IL.length+1) cv)) W→(∃ f',CW W B cb (n+3) { c with inClass:=IL ++ [x1] } f'∧Kp w W f f' (fun x=>x ≠ .no))∧Below B w W:=fun W hW=>
  ⟨⟨_,CW.mono ⟨m0,m4,m5,v1,_,v3,HF.out.below hW⟩ (by omega),(HBF.out.below HF.out.szB hW).kp⟩,(HBF.out.below HF.out.szB hW).bl⟩
 have FIN:=Lib.hid (fin _ (Below.refl _ _))
 clear HF HBF fin
 cases x3 with
 | false=>
   go_wp2
   go_ret
   rw [HIL.out]; exact ⟨by first | rfl | simp,FIN.out⟩
 | true=>
   cases b1 with
   | false=>
     go_wp2_with fail
     refine (HN1.out _).mono ?_
     rintro e _ ⟨rfl,rfl⟩
     go_wp2
     go_ret
     rw [HIL.out]; exact ⟨by first | rfl | simp,FIN.out⟩
   | true=>
     cases b2 with
     | false=>
       go_wp2_with fail
       refine (HN1.out _).mono ?_
       rintro e _ ⟨rfl,rfl⟩
       go_wp2_with fail
       refine (HN2.out _).mono ?_
       rintro e _ ⟨rfl,rfl⟩
       go_wp2
       go_ret
       rw [HIL.out]; exact ⟨by first | rfl | simp,FIN.out⟩
     | true=>
       go_wp2_with fail
       refine (HN1.out _).mono ?_
       rintro e _ ⟨rfl,rfl⟩
       go_wp2_with fail
       refine (HN2.out _).mono ?_
       rintro e _ ⟨rfl,rfl⟩
       go_wp2
       go_ret
       rw [HIL.out]; exact ⟨by first | rfl | simp,FIN.out⟩
end
section
open Go.RowKit SeedP Go.Maps
/-- an append of one row, as one step of a region that draws -/
theorem step_apG {P:Program} (t e:TypeId) (z:Value) (size bytes:Nat) {ops:Array Oper} {o:Oper} {a:Act} {w:World} {K:Act→World→Prop} {Q:Exit→Act→World→Prop} {E:Prop}
 (hi:(P.info? e).map (fun i=>(i.zero,i.size,i.bytes))=some (some z,size,bytes)) (ht:P.underlying t=some (.slice e)) (hzs:z.cells.size=size) (hsz:0 < size) (hgd:o.guard=none) (s x:Operand)
 (ho:o.op=.call { callee:=.builtin .append,args:=#[s,x],argTypes:=#[t,t] })
 (B:Nat) (v:Value) (n:Nat) (xs:List Value) (hs:a.eval s=v) (h:w.ownsRow B e size v n xs) (g c:Nat) (ys:List Value) (hx:a.eval x=.slice (some ⟨g,0,none⟩) 1 c) (hl:ys.length=size)
 (hg:Blk w g e ys) (h1:∀ y ∈ ys,y.oneCell'=true) (hn:n+1≤maxLen) (hnb:(n+1) * bytes≤140737488355328) (hB:B≤w.heap.size)
 (hK:∀ v' w',w'.ownsRow B e size v' (n+1) (xs ++ ys)→w.grownBy w' v.ownBlock→(v'.ownBlock=v.ownBlock∨v'.ownBlock=some w.heap.size)→K (a.put o.dst v') w') :
 if Region.wanted o (yielded ops a.tmps)=true then Oper.wp P o a w K Q else E:=by
 have hw:Region.wanted o (yielded ops a.tmps)=true:=by simp [Region.wanted,hgd]
 rw [if_pos hw]
 obtain ⟨v',w',hr,h2,h3,h5⟩:=apG_run t e z size bytes o.type hi ht hzs hsz B v n xs h g c ys hl hg h1 hn hnb hB
 unfold Oper.wp execOp
 simp only [ho,resolve,invoke,builtin,Sem.run_bind,Sem.run_pure,Result.andThen_ok,List.map_toArray,List.map_cons,List.map_nil,hs,hx,hr]
 exact hK v' w' h2 h3 h5
theorem infoT:(Tryz.prog.info? 35).map (fun i=>(i.zero,i.size,i.bytes))=some (some (.agg #[.string ⟨#[]⟩,.string ⟨#[]⟩,.int .i64 0,.int .i64 0,.int .i64 0,.int .i64 0,.slice none 0 0]),7,88):=by kernel_rfl
set_option maxRecDepth 100000 in
set_option maxHeartbeats 2000000 in
/-- task -/
theorem cTask_c {w:World} {B cb n:Nat} {c:ContP} {f:Nat→Lab} (rest val:List UInt8) (a:Option Addr) (cap:Nat) (h:CW w B cb n c f) (hn:n≤1000000) (hv:RdP w (fun g=>f g=.no) (.slice a val.length cap) val) :
 Calls Tryz.prog 80 #[.pointer (some ⟨cb,0,none⟩),strV rest,.slice a val.length cap] w (ReadPost B cb n f (tskStep c rest val) w):=by
 have hun:undef=Value.tuple #[]:=rfl
 obtain ⟨m0,m4,m5,v1,v2,v3,h⟩:=h
 have HT:=Lib.hid (readTask_c _ val w hv.toB)
 have hsz:=h.szB
 have htl:=h.tasks.1
 have hil:=h.inC.1
 have HS:=Lib.hid (fun W (hW:Below w.heap.size w W)=>h.below hW)
 have HD:=Lib.hid (fun W=>digits_c (c.tasks.length+1) 4 W (by omega) (by omega))
 have ecast:((c.tasks.length+1:Nat):Int)=(c.tasks.length:Int)+1:=by omega
 unfold ReadPost tskStep
 obtain ⟨t,ht⟩:∃ t,(readTaskP val).getD zeroT=t:=⟨_,rfl⟩
 obtain ⟨ok,hok⟩:∃ b,(readTaskP val).isSome=b:=⟨_,rfl⟩
 have HTT:Hid (Calls Tryz.prog 53 #[.slice a val.length cap] w fun e w'=>(∃ at1 ct1,e=.returned (.tuple #[taskV t (.slice at1 t.body.length ct1),.bool ok]))∧Below w.heap.size w w'):=Lib.hid (HT.out.mono (by
  rintro e w' ⟨hp,hb⟩
  refine ⟨?_,hb⟩
  cases hq:readTaskP val with
  | none=>
    rw [hq] at hp ht hok
    simp only [Option.getD_none] at ht
    subst ht
    cases hok
    exact ⟨none,0,hp⟩
  | some t0=>
    rw [hq] at hp ht hok
    simp only [Option.getD_some] at ht
    subst ht
    cases hok
    obtain ⟨a1,c1,he, -⟩:=hp
    exact ⟨a1,c1,he⟩))
 clear HT hv
 simp only
 rw [ht,hok]
 clear ht hok
 obtain ⟨cls,name,frm,due,late,tries,body⟩:=t
 simp only at HTT ⊢
 go_enter Tryz.func80,Tryz.ntmps80
 go_wp2_with fail
 refine HTT.out.mono ?_
 rintro e w1 ⟨⟨at1,ct1,rfl⟩,hb1⟩
 have hb2:=hb1.alloc hb1.size (.cells #[strV cls,strV name,.int .i64 frm,.int .i64 due,.int .i64 late,.int .i64 tries,.slice at1 body.length ct1] 35)
 have HTB:=Lib.hid (h.fr w1.heap.size hb1.size)
 have hY2:=Blk.new w1 35 [strV cls,strV name,.int .i64 frm,.int .i64 due,.int .i64 late,.int .i64 tries,.slice at1 body.length ct1]
 go_upto_region 2 with (fail)
 change Code.wp _ _ _ _ (w1.alloc (.cells #[strV cls,strV name,.int .i64 frm,.int .i64 due,.int .i64 late,.int .i64 tries,.slice at1 body.length ct1] 35))
 generalize w1.alloc (.cells #[strV cls,strV name,.int .i64 frm,.int .i64 due,.int .i64 late,.int .i64 tries,.slice at1 body.length ct1] 35)=w2 at *
 generalize w1.heap.size=tb at *
 obtain ⟨y0,y1,y2,y3,y4,y5,y6,yf⟩:=t7_of hY2
 have h2:=HS.out w2 hb2
 obtain ⟨-,c1, -, -, -, -,cf⟩:=h2.cells
 obtain ⟨-,xs,hrow,hxs⟩:=h2.tasks
 have H2:=Lib.hid h2
 have HXS:=Lib.hid hxs
 have HY2:=Lib.hid hY2
 have HB2:=Lib.hid (h.kqB hb2)
 clear HS HTT hb1 hb2 h2 hxs hY2
 have hn1:c.tasks.length+1≤1000001:=by omega
 have HSZ:=Lib.hid hsz
 go_cut [23] from 14 to 53 (fun _ wx=>∃ f' v1',CV wx B cb (n+1) { c with tasks:=c.tasks ++ [⟨cls,name,frm,due,late,tries,body⟩] } f' m0 m4 m5 v1' v2 v3∧Blk wx tb 35 [strV cls,strV name,.int .i64 frm,.int .i64 due,.int .i64 late,.int .i64 tries,.slice at1 body.length ct1]∧KQ B f f' w2 wx∧f' tb=.no)
 case first=>
  obtain ⟨-,ca1, -, -, -, -,caf⟩:=(H2.out.below ((Below.refl _ w2).alloc (Nat.le_refl _) (.cells #[strV cls,strV name,.int .i64 frm,.int .i64 due,.int .i64 late,.int .i64 tries,.slice at1 body.length ct1] 35))).cells
  go_region_law (refine step_apG 67 35 _ 7 88 infoT Tryz.underlying67 rfl (by decide) rfl _ _ rfl B v1 c.tasks.length xs rfl (hrow.alloc _) w2.heap.size 1 [strV cls,strV name,.int .i64 frm,.int .i64 due,.int .i64 late,.int .i64 tries,.slice at1 body.length ct1] rfl rfl (Blk.new w2.drew _ _) (by simp [Value.oneCell']) (by unfold maxLen; omega) (by omega) (by have:=H2.out.szB; simp; omega) ?_; intro v' w3 hn3 hg3 hi3; obtain ⟨av,cv,rfl⟩:=own_slice hn3; obtain ⟨-,k1, -, -, -, -,kf⟩:=(H2.out.below (bl_drew w2)).keepCb H2.out.o1 Lab.noConfusion (.cells #[strV cls,strV name,.int .i64 frm,.int .i64 due,.int .i64 late,.int .i64 tries,.slice at1 body.length ct1] 35) hg3)
  all_goals
   obtain ⟨hc3,hk3⟩:=(H2.out.below (bl_drew w2)).tkPut ⟨cls,name,frm,due,late,tries,body⟩ ((Below.refl _ w2.drew).alloc (Nat.le_refl _) (.cells #[strV cls,strV name,.int .i64 frm,.int .i64 due,.int .i64 late,.int .i64 tries,.slice at1 body.length ct1] 35)) HXS.out hrow.1 (by rfl) hn3 hg3 hi3
   have hy3:=hk3.blk HY2.out.drew (by rw [HTB.out]; exact fun e=>e.elim Lab.noConfusion Lab.noConfusion)
   have hb3:=(H2.out.below (bl_drew w2)).kq hk3 (fun e=>e.elim Lab.noConfusion Lab.noConfusion)
   have hf3:=(hk3.fk tb HY2.out.drew.lt (by rw [HTB.out]; exact fun e=>e.elim Lab.noConfusion Lab.noConfusion)).trans HTB.out
   go_wp2_with fail
   go_meet
   exact ⟨_,_,hc3,hy3,(H2.out.kqB (bl_drew w2)).trans hb3,hf3⟩
 case rest=>
  obtain ⟨f3,v4,hc3,hy3,hb3,hf3⟩:=hcut
  have HTB:=Lib.hid hf3
  have HY3:=Lib.hid hy3
  have HB3:=Lib.hid (HB2.out.trans hb3)
  have H3:=Lib.hid hc3
  have hrow:=hc3.inC.2
  unfold ownS at hrow
  obtain ⟨y0,y1,y2,y3,y4,y5,y6,yf⟩:=t7_of hy3
  obtain ⟨-, -,c2, -, -, -,cf⟩:=hc3.cells
  clear hb3 hf3 hy3 hc3 HB2 HY2 H2 HXS
  generalize wc=w4 at *
  go_upto_region 3 with (fail)
  go_cut [34] from 24 to 53 (fun _ wx=>∃ f' v1' v2',CV wx B cb (n+2) { c with tasks:=c.tasks ++ [⟨cls,name,frm,due,late,tries,body⟩],inClass:=c.inClass ++ [cls] } f' m0 m4 m5 v1' v2' v3∧KQ B f3 f' w4 wx)
  case first=>
   obtain ⟨-, -,ca2, -, -, -,caf⟩:=(H3.out.below ((Below.refl _ w4).alloc (Nat.le_refl _) (.cells #[strV cls] 9))).cells
   have hrow:w4.ownsRow B 9 1 v2 c.inClass.length (c.inClass.map strV):=hrow
   go_region_law (refine step_apG 42 9 _ 1 16 infoS Tryz.underlying42 rfl (by decide) rfl _ _ rfl B v2 c.inClass.length _ rfl (hrow.alloc _) w4.heap.size 1 [strV cls] rfl rfl (Blk.new w4.drew _ _) (by simp [Value.oneCell']) (by unfold maxLen; omega) (by omega) (by have:=H3.out.szB; simp; omega) ?_; intro v' w3 hn3 hg3 hi3; obtain ⟨av,cv,rfl⟩:=own_slice hn3; obtain ⟨-, -,k2, -, -, -,kf⟩:=(H3.out.below (bl_drew w4)).keepCb H3.out.o2 Lab.noConfusion (.cells #[strV cls] 9) hg3)
   all_goals
    obtain ⟨hc3,hk3⟩:=(H3.out.below (bl_drew w4)).inPut cls ((Below.refl _ w4.drew).alloc (Nat.le_refl _) (.cells #[strV cls] 9)) hn3 hg3 hi3
    have hb3:=(H3.out.below (bl_drew w4)).kq hk3 (fun e=>e.elim Lab.noConfusion Lab.noConfusion)
    go_wp2_with fail
    go_meet
    exact ⟨_,_,_,hc3,(H3.out.kqB (bl_drew w4)).trans hb3⟩
  case rest=>
   obtain ⟨f5,v5,v6,hc5,hb5⟩:=hcut
   have hb5':=HB3.out.trans hb5
   have FIN:=Lib.hid (fun W (hW:Below wc.heap.size wc W)=>(hb5'.below hc5.szB hW).both (CW.mono ⟨m0,m4,m5,v5,v6,v3,hc5.below hW⟩ (show n+2≤n+3 by omega)))
   obtain ⟨-,c1, -, -, -, -,cf⟩:=hc5.cells
   obtain ⟨-,ys,hr5, -⟩:=hc5.tasks
   obtain ⟨a5,d5,rfl⟩:=own_slice hr5
   simp only [List.length_append,List.length_cons,List.length_nil,Nat.zero_add] at c1
   clear hc5 hr5 hb5 hb5' H3 HB3 HY3 HTB hrow y0 y1 y2 y3 y4 y5 y6 yf c2
   rw [ecast] at HD
   clear htl ecast h
   cases ok with
   | false=>
     go_wp2
     go_ret
     exact ⟨rfl,⟨_,(FIN.out _ (Below.refl _ _)).1⟩,(FIN.out _ (Below.refl _ _)).2⟩
   | true=>
     by_cases hl:c.tasks.length+1≤9999
     ·have t1:decide ((c.tasks.length:Int)+1≤9999)=true:=decide_eq_true (by omega)
      have HX:Hid (decide (c.tasks.length+1≤9999)=true):=Lib.hid (decide_eq_true hl)
      clear hl
      go_wp2_with fail
      refine (HD.out _).mono ?_
      rintro e w6 ⟨rfl,hb6⟩
      go_wp2
      go_ret
      rw [HX.out]
      exact ⟨by simp,⟨_,(FIN.out _ hb6).1⟩,(FIN.out _ hb6).2⟩
     ·have t1:decide ((c.tasks.length:Int)+1≤9999)=false:=decide_eq_false (by omega)
      have HX:Hid (decide (c.tasks.length+1≤9999)=false):=Lib.hid (decide_eq_false hl)
      clear hl
      go_wp2
      go_ret
      rw [HX.out]
      exact ⟨rfl,⟨_,(FIN.out _ (Below.refl _ _)).1⟩,(FIN.out _ (Below.refl _ _)).2⟩
end
section
open Go.RowKit SeedP Go.Maps
theorem results_tmp4 {fn:Func} {t u v x:Tmp} (h:fn.results=#[.tmp t,.tmp u,.tmp v,.tmp x]) (tmps:Array Value) (P:Program) (w:World) :
 (results fn tmps).run P w=.ok (.tuple #[tmps.getD t undef,tmps.getD u undef,tmps.getD v undef,tmps.getD x undef]) w:=by
 simp [results,h]
set_option maxRecDepth 100000 in
set_option maxHeartbeats 2000000 in
/-- ofStudent -/
theorem ofStudent_c {w:World} {B cb n:Nat} {c:ContP} {f:Nat→Lab} (rest:List UInt8) (h:CW w B cb n c f) (hn:n≤1000000) (hr:rest.length≤1000000) :
 Calls Tryz.prog 123 #[.pointer (some ⟨cb,0,none⟩),strV rest] w fun e w'=>
  e=.returned (.tuple #[.int .i64 (ofStP rest).id,strV (ofStP rest).student,strV (ofStP rest).behind,.bool (ofStP rest).ok]) ∧
  (∃ f',CW w' B cb (n+1) { c with ofTask:=c.ofTask ++ [(ofStP rest).id] } f'∧Kp w w' f f' (fun x=>x=.v3∨x=.cell))∧Below B w w':=by
 have hun:undef=Value.tuple #[]:=rfl
 obtain ⟨m0,m4,m5,v1,v2,v3,h⟩:=h
 have HC:=Lib.hid (cut_c rest w (by unfold maxLen; omega))
 have hl1:=cutP_len rest
 have HC2:=Lib.hid (fun W=>cut_c (cutP rest).2.1 W (by unfold maxLen; omega))
 have HRD:=Lib.hid (fun W=>readDigits_c (cutP rest).1 4 W (by omega))
 have hil:=h.ofT.1
 have hsz:=h.szB
 have HP:=Lib.hid (fun x W (hW:Below w.heap.size w W) W2 v' hr hg hv=>h.ofPut x (w1:=W.alloc (.cells #[.int .i64 (x:Nat)] 3)) (w2:=W2) (hW.alloc hW.size _) (v':=v') hr hg hv)
 have HPB:=Lib.hid (fun W (f':Nat→Lab) (k:Kp w W f f' (fun x=>x=.v3∨x=.cell))=>h.kpB k (fun e=>e.elim Lab.noConfusion Lab.noConfusion))
 have HCC:=Lib.hid (fun W (hW:Below w.heap.size w W)=>(h.below hW).cells)
 have HR:=Lib.hid (fun W (hW:Below w.heap.size w W)=>(h.below hW).ofT.2)
 have HK:=Lib.hid (fun x W (hW:Below w.heap.size w W) W2 hg=>(h.below hW).keepCb (w2:=W2) h.o3 Lab.noConfusion (.cells #[.int .i64 (x:Nat)] 3) hg)
 unfold ofStP
 simp only
 have HN:=Lib.hid (fun w=>isName_c (cutP (cutP rest).2.1).1 w)
 generalize (cutP (cutP rest).2.1).1=y1 at *
 generalize (cutP (cutP rest).2.1).2.1=y2 at *
 generalize (cutP (cutP rest).2.1).2.2=y3 at *
 have hid:=rdDig_le (cutP rest).1 4
 generalize (rdDig (cutP rest).1 4).1=id at *
 generalize (rdDig (cutP rest).1 4).2=rt at *
 generalize (cutP rest).1=x1 at *
 generalize (cutP rest).2.1=x2 at *
 generalize (cutP rest).2.2=x3 at *
 generalize isNameP y1=b1 at *
 clear h hl1
 go_enter Tryz.func123,Tryz.ntmps123
 go_wp2_with fail
 refine HC.out.mono ?_
 rintro e w1 ⟨rfl,hb1⟩
 go_wp2_with fail
 refine (HRD.out _).mono ?_
 rintro e _ ⟨rfl,rfl⟩
 go_wp2_with fail
 refine (HC2.out _).mono ?_
 rintro e w2 ⟨rfl,hb2⟩
 have hbw:=hb1.trans (hb2.mono hb1.size)
 obtain ⟨-, -, -,c3, -, -,cf⟩:=HCC.out w2 hbw
 have hrow:=HR.out w2 hbw
 unfold ownI at hrow
 have hs1:=hbw.size
 have HB1:=Lib.hid hbw
 clear HC HCC HR hb1 hb2 hbw HRD HC2
 go_upto_region 5 with (at_builtin; go_must (refine wpList_apG 46 3 _ 1 8 infoInt Tryz.underlying46 rfl (by decide) rfl _ _ rfl B _ c.ofTask.length _ rfl (hrow.alloc _) w2.heap.size 1 [.int .i64 (id:Int)] rfl rfl (Blk.new w2 _ _) (by simp [Value.oneCell']) (by unfold maxLen; omega) (by omega) (by simp; omega) ?_); intro v' w3 hn2 hg2 hi2; obtain ⟨av,cv,rfl⟩:=own_slice hn2; obtain ⟨-, -, -,k3, -, -,kf⟩:=HK.out id _ HB1.out _ hg2)
 obtain ⟨hF,hKp⟩:=HP.out id w2 HB1.out w3 _ hn2 hg2 hi2
 have FIN:Hid ((∃ f',CW (w3.setCell ⟨cb,3,none⟩ (.slice av (c.ofTask.length+1) cv)) B cb (n+1) { c with ofTask:=c.ofTask ++ [id] } f'∧Kp w (w3.setCell ⟨cb,3,none⟩ (.slice av (c.ofTask.length+1) cv)) f f' (fun x=>x=.v3∨x=.cell))∧Below B w (w3.setCell ⟨cb,3,none⟩ (.slice av (c.ofTask.length+1) cv))):=
  Lib.hid ⟨⟨_,⟨m0,m4,m5,v1,v2,_,hF⟩,hKp⟩,HPB.out _ _ hKp⟩
 clear HP HPB HK hn2 hg2 hi2 hrow k3 kf c3 hF hKp
 cases x3 with
 | false=>
   go_wp2
   refine bodyPost_ret (results_tmp4 rfl _ _ _) rfl ?_
   exact ⟨rfl,FIN.out⟩
 | true=>
   cases rt with
   | false=>
     go_wp2
     refine bodyPost_ret (results_tmp4 rfl _ _ _) rfl ?_
     exact ⟨rfl,FIN.out⟩
   | true=>
     go_wp2_with fail
     refine (HN.out _).mono ?_
     rintro e _ ⟨rfl,rfl⟩
     go_wp2
     refine bodyPost_ret (results_tmp4 rfl _ _ _) rfl ?_
     exact ⟨by first | rfl | simp,FIN.out⟩
theorem ofStP_len (rest:List UInt8):(ofStP rest).student.length≤rest.length∧(ofStP rest).behind.length≤rest.length:=by
 have h1:=cutP_len rest
 have h2:=cutP_len (cutP rest).2.1
 exact ⟨Nat.le_trans h2.1 h1.2,Nat.le_trans h2.2 h1.2⟩
set_option maxRecDepth 100000 in
set_option maxHeartbeats 2000000 in
/-- extension -/
theorem cExt_c {w:World} {B cb n:Nat} {c:ContP} {f:Nat→Lab} (rest val:List UInt8) (a:Option Addr) (cap:Nat) (h:CW w B cb n c f) (hn:n≤1000000) (hr:rest.length≤1000000) (hv:RdP w (fun g=>f g=.no) (.slice a val.length cap) val) :
 Calls Tryz.prog 81 #[.pointer (some ⟨cb,0,none⟩),strV rest,.slice a val.length cap] w (ReadPost B cb n f (extStep c rest val) w):=by
 have hun:undef=Value.tuple #[]:=rfl
 have HO:=Lib.hid (ofStudent_c rest h hn hr)
 have hsl:=(ofStP_len rest).1
 have HV:=Lib.hid (fun W f' (k:Kp w W f f' (fun x=>x=.v3∨x=.cell))=>hv.grown k.gr (fun g e hs=>by
  have hs:f g=.v3∨f g=.cell:=hs
  have e:f g=.no:=e
  rw [e] at hs
  exact hs.elim Lab.noConfusion Lab.noConfusion))
 unfold ReadPost extStep
 generalize hO:ofStP rest=o at *
 obtain ⟨id,st,bh,ok⟩:=o
 simp only at HO hsl ⊢
 have hs1:=str_size rest
 have hs2:=str_size st
 have hwl:IntKind.i64.wrap (5+(st.length:Int))=5+(st.length:Int):=by rw [IntKind.wrap_i64]; omega
 have HL1:Hid (decide (rest.length=5+st.length)=((rest.length:Int) == 5+(st.length:Int))):=Lib.hid (by
  rw [Bool.eq_iff_iff,decide_eq_true_eq,beq_iff_eq]; omega)
 have HL2:Hid (decide (val.length=4)=((val.length:Int) == 4)):=Lib.hid (by
  rw [Bool.eq_iff_iff,decide_eq_true_eq,beq_iff_eq]; omega)
 have HNV:=Lib.hid (numV4_lt val)
 rw [HL1.out]
 clear hO hv
 obtain ⟨q1,hq1⟩:∃ b,((rest.length:Int) == 5+(st.length:Int))=b:=⟨_,rfl⟩
 have hq1':((rest.length:Int) != 5+(st.length:Int))=!q1:=by rw [← hq1]; rfl
 rw [hq1]
 clear HL1 hq1
 go_enter Tryz.func81,Tryz.ntmps81
 go_wp2_with fail
 refine HO.out.mono ?_
 rintro e w1 ⟨rfl,⟨f1,hc1,hk1⟩,hb1⟩
 have HV1:=Lib.hid (HV.out _ _ hk1)
 have FIN:=Lib.hid (fun W (hW:Below w1.heap.size w1 W)=>((KQ.mk hb1 (hk1.mono (fun x hx e=>by rw [e] at hx; exact hx.elim Lab.noConfusion Lab.noConfusion))).below hc1.szB hW).both (CW.mono (hc1.below hW) (show n+1≤n+3 by omega)))
 clear HO HV hc1 hk1 hb1
 cases ok with
 | false=>
   go_wp2
   go_ret
   exact ⟨rfl,⟨_,(FIN.out _ (Below.refl _ _)).1⟩,(FIN.out _ (Below.refl _ _)).2⟩
 | true=>
   cases q1 with
   | false=>
     go_wp2
     go_ret
     exact ⟨rfl,⟨_,(FIN.out _ (Below.refl _ _)).1⟩,(FIN.out _ (Below.refl _ _)).2⟩
   | true=>
     by_cases h4:val.length=4
     ·have t4:((val.length:Int) != 4)=false:=by rw [h4]; rfl
      have HD:Hid (decide (val.length=4)=true):=Lib.hid (decide_eq_true h4)
      have HRN:=Lib.hid (readNumberP_c _ val _ w1 HV1.out (by omega))
      have ht:val.take 4=val:=List.take_of_length_le (by omega)
      rw [ht] at HRN HNV
      have hnv:=HNV.out
      have HDR:Hid (decide (1≤numV val∧numV val≤1048576)=(decide ((1:Int)≤(numV val:Int)) && decide ((numV val:Int)≤1048576))):=Lib.hid (by
       rw [Bool.eq_iff_iff,decide_eq_true_eq,Bool.and_eq_true,decide_eq_true_eq,decide_eq_true_eq]; omega)
      generalize hnve:numV val=nv at *
      have HNE:=Lib.hid hnve
      clear ht HNV h4 hnve
      go_wp2_with fail
      refine HRN.out.mono ?_
      rintro e w2 ⟨⟨v2,rfl, -⟩,hb2⟩
      have FIN2:=Lib.hid (FIN.out _ hb2)
      clear FIN HRN hb2
      obtain ⟨p1,hp1⟩:∃ b,decide ((1:Int)≤(nv:Int))=b:=⟨_,rfl⟩
      cases p1 with
      | false=>
        go_wp2
        go_ret
        rw [HD.out,HNE.out,HDR.out,hp1]
        exact ⟨rfl,⟨_,FIN2.out.1⟩,FIN2.out.2⟩
      | true=>
        go_wp2
        go_ret
        rw [HD.out,HNE.out,HDR.out,hp1]
        exact ⟨rfl,⟨_,FIN2.out.1⟩,FIN2.out.2⟩
     ·have t4:((val.length:Int) != 4)=true:=by rw [bne_iff_ne]; omega
      have HD:Hid (decide (val.length=4)=false):=Lib.hid (decide_eq_false h4)
      clear h4
      go_wp2
      go_ret
      rw [HD.out]
      exact ⟨rfl,⟨_,(FIN.out _ (Below.refl _ _)).1⟩,(FIN.out _ (Below.refl _ _)).2⟩
end
end Go.Proofs.YtbcfpdlhieaepaaGreatDoor
