/-
  Parts of the proof of KeysPieces.
-/
import Derived.ProofKit
import Derived.OpenShut
import Derived.ChangeOld
import Derived.HandedShaped
import Derived.Deep.Matrix
import Derived.LaidMore
import Derived.Stop.Joined
import Derived.Stop.LaidErr
import Derived.MakeChecks
import Derived.Lib.LaidTab
import Derived.LaidOnce
import Derived.Lib.Space
import Derived.Test.YtddnafghiejcoaaGreatDoorKKeysPiecesF
set_option linter.unusedVariables false
set_option linter.unusedSimpArgs false
set_option linter.unusedSectionVars false
namespace Go.Proofs.YtddnafghiejcoaaGreatDoor
open Go.Lift Go.Keys
set_option maxRecDepth 1000000
abbrev pbF(q bv bo n c:Nat)(acc i:Nat):Facts:= [(0,.slice (some ⟨q,bv,bo,0,1⟩) n c),(3,.int .i64 (acc:Nat)),(4,.int .i64 (i:Nat))]
theorem pb_loop {B q bv bo c:Nat} {ps:List Bytes} (hn:ps.length<2^62) (hl: ∀ (r:Nat) (h:r<ps.length),ps[r].length<2^61): ∀ (t i:Nat) (H:AHeap) (col:Nat→Nat),ps.length-i≤t→i≤ps.length→B≤H.next→PcAt H col q bv bo ps→i+(ps.take i).flatten.length≤134217728 →
    ∃ k,(ps.length+ps.flatten.length≤134217728∧ ∃ x y,Loops Tryz.prog cnd B 129 (loopAt Tryz.prog 9 0) (pbF q bv bo ps.length c (i+(ps.take i).flatten.length) i) H (.exit 0) [(0,.slice (some ⟨q,bv,bo,0,1⟩) ps.length c),(3,x),(4,y)] ⟨H.next+k,H.blks⟩) ∨
      (∃ x y,Loops Tryz.prog cnd B 129 (loopAt Tryz.prog 9 0) (pbF q bv bo ps.length c (i+(ps.take i).flatten.length) i) H .ret [(0,.slice (some ⟨q,bv,bo,0,1⟩) ps.length c),(2,.bool true),(3,x),(4,y)] ⟨H.next+k,H.blks⟩):=by
  intro t
  have fin: ∀ (H:AHeap),B≤H.next→ps.length+(ps.take ps.length).flatten.length≤134217728 →
      ∃ k,(ps.length+ps.flatten.length≤134217728∧ ∃ x y,Loops Tryz.prog cnd B 129 (loopAt Tryz.prog 9 0) (pbF q bv bo ps.length c (ps.length+(ps.take ps.length).flatten.length) ps.length) H (.exit 0) [(0,.slice (some ⟨q,bv,bo,0,1⟩) ps.length c),(3,x),(4,y)] ⟨H.next+k,H.blks⟩) ∨
      (∃ x y,Loops Tryz.prog cnd B 129 (loopAt Tryz.prog 9 0) (pbF q bv bo ps.length c (ps.length+(ps.take ps.length).flatten.length) ps.length) H .ret [(0,.slice (some ⟨q,bv,bo,0,1⟩) ps.length c),(2,.bool true),(3,x),(4,y)] ⟨H.next+k,H.blks⟩):=by
    intro H hB hs
    rw [List.take_length]at hs ⊢
    obtain⟨e,F1,h1,hr,rfl,rfl,rfl⟩:=pb_vp H B q bv bo ps.length c ps.length (ps.length+ps.flatten.length) 0 0 none (fun e F1 h1=>e= .exit 0∧F1=pbF q bv bo ps.length c (ps.length+ps.flatten.length) ps.length∧h1=⟨H.next+4,H.blks⟩) (bif_ble hB ⟨fun h=>by omega,fun _=>⟨rfl,rfl,rfl⟩⟩)
    exact⟨4,.inl ⟨hs,_,_,Loops.last (by simp) hr⟩⟩
  induction t with
  | zero =>
    intro i H col ht hi hB g hs
    obtain rfl:i=ps.length:=by omega
    exact fin H hB hs
  | succ t ih =>
    intro i H col ht hi hB g hs
    by_cases hc:i<ps.length
    · obtain⟨po,pc,_,hld⟩:=g.load i hc
      have hfl:=flat_take hc
      have hpl:=hl i hc
      have hacc:((i+(ps.take i).flatten.length:Nat):Int)+1+(ps[i].length:Nat)=((i+1+(ps.take (i+1)).flatten.length:Nat):Int):=by
        rw [hfl,List.length_append];omega
      by_cases hbig:134217728<i+1+(ps.take (i+1)).flatten.length
      · obtain⟨e,F1,h1,hr,rfl,rfl,rfl⟩:=pb_vp H B q bv bo ps.length c i (i+(ps.take i).flatten.length) ps[i].length pc po (fun e F1 h1=>e= .ret∧F1= [(0,.slice (some ⟨q,bv,bo,0,1⟩) ps.length c),(2,.bool true),(3,.int .i64 ((i+1+(ps.take (i+1)).flatten.length:Nat):Int)),(4,.int .i64 (i:Nat))]∧h1=⟨H.next+16,H.blks⟩)
          (bif_ble hB ⟨fun _=>bif_ble (by omega) ⟨⟨by omega,by omega⟩,⟨by omega,by omega⟩,hld 13,⟨by rw [hacc];omega,by rw [hacc,hfl,List.length_append];omega⟩,bif_ble (by omega) ⟨fun _=>bif_ble (by omega) ⟨rfl,by rw [hacc],rfl⟩,fun h=>absurd (by rw [hacc];omega) h⟩⟩,fun h=>absurd (by omega) h⟩)
        exact⟨16,.inr ⟨_,_,Loops.last (by simp) hr⟩⟩
      · obtain⟨e,F1,h1,hr,rfl,rfl,rfl⟩:=pb_vp H B q bv bo ps.length c i (i+(ps.take i).flatten.length) ps[i].length pc po (fun e F1 h1=>e= .normal∧F1=pbF q bv bo ps.length c (i+1+(ps.take (i+1)).flatten.length) (i+1)∧h1=⟨H.next+18,H.blks⟩)
          (bif_ble hB ⟨fun _=>bif_ble (by omega) ⟨⟨by omega,by omega⟩,⟨by omega,by omega⟩,hld 13,⟨by rw [hacc];omega,by rw [hacc];omega⟩,bif_ble (by omega) ⟨fun h=>by rw [hacc]at h;omega,fun _=>bif_ble (by omega) ⟨⟨by omega,by omega⟩,rfl,by rw [hacc,show((i:Int)+1)=((i+1:Nat):Int)by omega],rfl⟩⟩⟩,fun h=>absurd (by omega) h⟩)
        obtain⟨k,hk⟩:=ih (i+1) ⟨H.next+18,H.blks⟩ _ (by omega) (by omega) (by show B≤H.next+18;omega) (g.mv (Mv.fresh H col 18) (by simp)) (by omega)
        refine⟨18+k,?_⟩
        rw [← Nat.add_assoc]
        rcases hk with ⟨h1,x,y,hL⟩ | ⟨x,y,hL⟩
        · exact .inl ⟨h1,x,y,Loops.step hr hL⟩
        · exact .inr ⟨x,y,Loops.step hr hL⟩
    · obtain rfl:i=ps.length:=by omega
      exact fin H hB hs
theorem GL.recol {H:AHeap}{col:Nat→Nat}{sz:Nat}{ty:Option (TypeId×Nat)}{v:AVal}{l:List AVal}(h:GL H col 7 sz ty v l):GL H (fun x=>if col x=7 then 10 else col x) 10 sz ty v l∧Mv H H col (fun x=>if col x=7 then 10 else col x) [7]:=by
  refine⟨?_,⟨Nat.le_refl _,fun _ _ _=>rfl,fun x _ h=>if_neg (by simpa using h)⟩⟩
  rcases h.ex with h | ⟨h1,o,h2,h3,h4⟩
  · exact⟨.inl h⟩
  · exact⟨.inr ⟨h1,o,h2,by simp [h3],h4⟩⟩
theorem agree_of {a b:List AVal}{h k h' k':AHeap}{v u:AVal}(e:h.next≠k.next):Agree a b h k v u h' k':=⟨fun _ q=>absurd (congrArg AHeap.next q) e⟩
def MainOk (B n c:Nat) (o:Option AAddr) (q bv bo:Nat) (ps:List Bytes):Prop :=
  ∀ (H:AHeap) (col:Nat→Nat) (da db dc:Nat) (Ia Ib Ic:Ids),B≤H.next→Inv H col q bv bo ps da db dc Ia Ib Ic [] [] [] (.slice none 0 0) (.slice none 0 0) (.slice none 0 0) →
    ∃ H' col' Ia' Ib' av lv mv iv,Runs Tryz.prog cnd B 129 (.loop (loopAt Tryz.prog 9 1)) [(0,.slice o n c),(5,.ptr (some ⟨da,0,0,0,6⟩)),(6,.ptr (some ⟨db,0,0,0,6⟩)),(7,.ptr (some ⟨dc,0,0,0,6⟩)),(8,.slice none 0 0),(9,.slice none 0 0),(10,.slice none 0 0),(11,.int .i64 0)] H (.exit 2) [(0,.slice o n c),(5,.ptr (some ⟨da,0,0,0,6⟩)),(6,.ptr (some ⟨db,0,0,0,6⟩)),(7,.ptr (some ⟨dc,0,0,0,6⟩)),(8,av),(9,lv),(10,mv),(11,iv)] H'∧Inv H' col' q bv bo ps da db dc Ia' Ib' Ic ps.flatten ps.flatten ps.flatten av lv mv∧H.next≤H'.next
theorem pieces_core {H:AHeap}{col:Nat→Nat}{n c q bv bo k:Nat}{o:Option AAddr}{x y:AVal}{ps:List Bytes}(hk:3≤k)(hb:Runs Tryz.prog cnd H.next 129 (.loop (loopAt Tryz.prog 9 0)) [(0,.slice o n c),(3,.int .i64 0),(4,.int .i64 0)] ⟨H.next+3,H.blks⟩ (.exit 0) [(0,.slice o n c),(3,x),(4,y)] ⟨H.next+k,H.blks⟩)
    (hm:MainOk H.next n c o q bv bo ps) (hp:PcAt H col q bv bo ps) (ht:ps.flatten.length<2^28): ∃ H',FDoes Tryz.prog cnd 9 [.slice o n c] H (.bool true) H':=by
  have hbl: ∀ {a b:Nat} {p:Prop},a≤b→p→_root_.cond (Nat.ble a b) p False:=fun h k=>by rw [Nat.ble_eq.mpr h];exact k
  have m0:=Mv.fresh H col (k+2)
  have p0:=hp.mv m0 (by simp)
  obtain⟨H2,da,Ia,c2,n2,da0,m2⟩:=DC.new ⟨H.next+(k+2),H.blks⟩ (fresh H col) 1
  have e2:H.next+(k+2)≤H2.next:=m2.next
  have p2:=p0.mv m2 (by simp)
  have f2:=Mv.fresh H2 c2 2
  obtain⟨H3,db,Ib,c3,n3,db0,m3⟩:=DC.new ⟨H2.next+2,H2.blks⟩ (fresh H2 c2) 2
  have e3:H2.next+2≤H3.next:=m3.next
  have g3:=f2.trans m3
  have f3:=Mv.fresh H3 c3 2
  obtain⟨H4,dc,Ic,c4,n4,dc0,m4⟩:=DC.new ⟨H3.next+2,H3.blks⟩ (fresh H3 c3) 3
  have e4:H3.next+2≤H4.next:=m4.next
  have g4:=f3.trans m4
  have f4:=Mv.fresh H4 c4 14
  have inv:Inv ⟨H4.next+14,H4.blks⟩ (fresh H4 c4) q bv bo ps da db dc Ia Ib Ic [] [] [] (.slice none 0 0) (.slice none 0 0) (.slice none 0 0) :=
    ⟨((p2.mv g3 (by simp)).mv g4 (by simp)).mv f4 (by simp),((da0.mv g3 (by simp)).mv g4 (by simp)).mv f4 (by simp),(db0.mv g4 (by simp)).mv f4 (by simp),dc0.mv f4 (by simp),GL.nil _ _ _ _ _,GL.nil _ _ _ _ _,GL.nil _ _ _ _ _⟩
  obtain⟨H5,c5,Ia5,Ib5,av,lv,mv,iv,hL,inv5,e5⟩:=hm ⟨H4.next+14,H4.blks⟩ _ da db dc Ia Ib Ic (by show H.next≤H4.next+14;omega) inv
  have e5:H4.next+14≤H5.next:=e5
  have hG:=good_feedAll ps.flatten good0
  have hS:=good_small hG
  have hfew:=few_feedAll ps.flatten s0
  have f5:=Mv.fresh H5 c5 4
  have inv6:=inv5.mv f5 (by simp)
  obtain⟨oa,rfl,ba6⟩:=inv6.al.ba
  obtain⟨H6,wv,Ic6,c6,n6,dc6,w6,m6⟩:=inv6.c.feed (m:=ps.flatten.length) good0 ht ba6 (by decide)
  have e6:H5.next+4≤H6.next:=m6.next
  have a6:=inv6.a.mv m6 (by decide)
  have b6:=inv6.b.mv m6 (by decide)
  have l6:=inv6.l.mv m6 (by decide)
  have k6:=inv6.m.mv m6 (by decide)
  generalize hsz:(feedAll s0 ps.flatten).1=sz at a6 b6 dc6 hG hS
  generalize hez:(feedAll s0 ps.flatten).2=ez at l6 k6 w6 hfew
  have f6:=Mv.fresh H6 c6 24
  have a6:=a6.mv f6 (by simp)
  have b6:=b6.mv f6 (by simp)
  have dc6:=dc6.mv f6 (by simp)
  have l6:=l6.mv f6 (by simp)
  have k6:=k6.mv f6 (by simp)
  have w6:=w6.mv f6 (by simp)
  obtain⟨H7,n7,m7,e7⟩:=l6.same w6 (by decide) (by omega)
  rw [decide_eq_true rfl]at n7
  have e7:H6.next+24<H7.next:=e7
  obtain⟨H8,n8,m8,e8⟩:=(k6.mv m7 (by simp)).same (w6.mv m7 (by simp)) (by decide) (by omega)
  rw [decide_eq_true rfl]at n8
  have m78:=m7.trans m8
  obtain⟨H9,Ia9,c9,n9,a9,m9,e9⟩:=(a6.mv m78 (by simp)).held hS.1 hS.2
  obtain⟨H10,Ic10,c10,n10,dc10,m10,e10⟩:=((dc6.mv m78 (by simp)).mv m9 (by decide)).held hS.1 hS.2
  obtain⟨H11,Ib11,c11,n11,b11,m11,e11⟩:=(((b6.mv m78 (by simp)).mv m9 (by decide)).mv m10 (by decide)).held hS.1 hS.2
  obtain⟨H12,Ic12,c12,n12,dc12,m12,e12⟩:=(dc10.mv m11 (by decide)).held hS.1 hS.2
  have a12:=((a9.mv m10 (by decide)).mv m11 (by decide)).mv m12 (by decide)
  have f12:=Mv.fresh H12 c12 16
  obtain⟨H13,xv,Ia13,c13,n13,a13,x13,m13,e13⟩:=(a12.mv f12 (by simp)).flush hG hS.1
  have e13:H12.next+16<H13.next:=e13
  obtain⟨x13,r13⟩:=x13.recol
  obtain⟨H14,yv,Ic14,c14,n14,dc14,y14,m14,e14⟩:=(((dc12.mv f12 (by simp)).mv m13 (by decide)).mv r13 (by decide)).flush hG hS.1
  have x14:=x13.mv m14 (by decide)
  have a14:=(a13.mv r13 (by decide)).mv m14 (by decide)
  have hGf:=good_flush hG
  have hSf:=good_small hGf
  obtain⟨H15,n15,m15,e15⟩:=x14.same y14 (by decide) (by
    unfold Keys.flush
    repeat' split
    all_goals simp [Keys.tell])
  rw [decide_eq_true rfl]at n15
  obtain⟨H16,Ia16,c16,n16,a16,m16,e16⟩:=(a14.mv m15 (by simp)).held hSf.1 hSf.2
  obtain⟨H17,Ic17,c17,n17,dc17,m17,e17⟩:=((dc14.mv m15 (by simp)).mv m16 (by decide)).held hSf.1 hSf.2
  obtain⟨H18,n18⟩:=wakes_does H17
  have n18':=n18.pad (h2:=⟨H18.next+H.next,H18.blks⟩) (by show H18.next≤H18.next+H.next;omega) (fun _ _=>rfl)
  obtain⟨v,h',hd,rfl,rfl⟩:=pB_vc H ⟨H.next+k,H.blks⟩ H2 H3 H4 H5 H6 H7 H8 H9 H10 H11 H12 H13 H14 H15 H16 H17 ⟨H18.next+H.next,H18.blks⟩ n c (held sz) (held (Keys.flush sz).1) o x y iv da db dc _ lv mv wv xv yv (fun v h'=>v= .bool true∧h'=⟨H18.next+H.next,H18.blks⟩)
    (bif_ble (Nat.le_refl _) (bif_ble (by omega) (bif_ble (by omega) ⟨hb,bif_ble (by show H.next≤H.next+k;omega) ⟨⟨n2⟩,bif_ble (by omega) ⟨⟨n3⟩,bif_ble (by omega) ⟨⟨n4⟩,bif_ble (by omega) (bif_ble (by omega) (bif_ble (by omega) (bif_ble (by omega) ⟨hL,bif_ble (by omega) ⟨⟨n6⟩,bif_ble (by omega) ⟨⟨n7⟩,⟨n8⟩,⟨n9⟩,⟨n10⟩,by simp,⟨n11⟩,⟨n12⟩,by simp,
      agree_of (by show H6.next+24≠H7.next;omega),agree_of (by omega),agree_of (by omega),agree_of (by omega),agree_of (by omega),agree_of (by omega),agree_of (by omega),
      bif_ble (by omega) ⟨⟨n13⟩,⟨n14⟩,⟨n15⟩,⟨n16⟩,⟨n17⟩,by simp,⟨n18'⟩,agree_of (by show H12.next+16≠H13.next;omega),agree_of (by omega),hbl (by show H.next≤H18.next+H.next;omega) ⟨rfl,rfl⟩⟩⟩⟩⟩)))⟩⟩⟩⟩)))
  exact⟨_,hd⟩
theorem pieces0_law(H:AHeap)(c:Nat): ∃ H',FDoes Tryz.prog cnd 9 [.slice none 0 c] H (.bool true) H':=by
  obtain⟨e,F1,h1,hr,rfl,rfl,rfl⟩:=pb0_vp ⟨H.next+3,H.blks⟩ H.next c (fun e F1 h1=>e= .exit 0∧F1= [(0,.slice none 0 c),(3,.int .i64 0),(4,.int .i64 0)]∧h1=⟨H.next+7,H.blks⟩) (bif_ble (by show H.next≤H.next+3;omega) ⟨rfl,rfl,rfl⟩)
  refine pieces_core (col:=fun _=>0) (k:=7) (q:=0) (bv:=0) (bo:=0) (ps:= []) (by omega) (Runs.of_loops (Loops.last (by simp) hr)) ?_ ⟨fun h=>absurd rfl h⟩ (by simp)
  intro H4 col da db dc Ia Ib Ic hB g
  obtain⟨e,F1,h1,hr2,rfl,rfl,rfl⟩:=pm0_vp H4 H.next c da db dc (.slice none 0 0) (.slice none 0 0) (.slice none 0 0) (fun e F1 h1=>e= .exit 2∧F1= [(0,.slice none 0 c),(5,.ptr (some ⟨da,0,0,0,6⟩)),(6,.ptr (some ⟨db,0,0,0,6⟩)),(7,.ptr (some ⟨dc,0,0,0,6⟩)),(8,.slice none 0 0),(9,.slice none 0 0),(10,.slice none 0 0),(11,.int .i64 0)]∧h1=⟨H4.next+4,H4.blks⟩) (bif_ble hB ⟨rfl,rfl,rfl⟩)
  exact⟨_,_,Ia,Ib,_,_,_,_,Runs.of_loops (Loops.last (by simp) hr2),g.mv (Mv.fresh H4 col 4) (by simp),by show H4.next≤H4.next+4;omega⟩
theorem pieces_law {H:AHeap}{q bv bo c:Nat}{ps:List Bytes}(hn:ps.length<2^62)(hl: ∀ (r:Nat) (h:r<ps.length),ps[r].length<2^61)(hp:PcAt H (fun _=>0) q bv bo ps) :
    ∃ H',FDoes Tryz.prog cnd 9 [.slice (some ⟨q,bv,bo,0,1⟩) ps.length c] H (.bool true) H':=by
  have hbl: ∀ {a b:Nat} {p:Prop},a≤b→p→_root_.cond (Nat.ble a b) p False:=fun h k=>by rw [Nat.ble_eq.mpr h];exact k
  obtain⟨k,hk⟩:=pb_loop (B:=H.next) (c:=c) hn hl ps.length 0 ⟨H.next+3,H.blks⟩ _ (by omega) (by omega) (by show H.next≤H.next+3;omega) (hp.mv (Mv.fresh H (fun _=>0) 3) (by simp)) (by simp)
  rcases hk with ⟨hs,x,y,hL⟩ | ⟨x,y,hL⟩
  · have hL':=Runs.of_loops hL
    refine pieces_core (col:=fun _=>0) (k:=3+k) (q:=q) (bv:=bv) (bo:=bo) (ps:=ps) (by omega) (by rw [← Nat.add_assoc];exact hL') ?_ hp (by omega)
    intro H4 col da db dc Ia Ib Ic hB g
    obtain⟨H5,c5,Ia5,Ib5,av,lv,mv,hL5,g5,e5⟩:=pm_loop (B:=H.next) (c:=c) hn (by omega) ps.length 0 H4 col Ia Ib _ _ _ (by omega) (by omega) hB g
    exact⟨H5,c5,Ia5,Ib5,av,lv,mv,_,Runs.of_loops hL5,g5,e5⟩
  · obtain⟨v,h',hd,rfl⟩:=pA_vc H _ ps.length c (some ⟨q,bv,bo,0,1⟩) x y (fun v h'=>v= .bool true) (bif_ble (Nat.le_refl _) (bif_ble (by omega) (bif_ble (by omega) ⟨Runs.of_loops hL,hbl (by show H.next≤H.next+3+k;omega) rfl⟩)))
    exact⟨_,hd⟩
end Go.Proofs.YtddnafghiejcoaaGreatDoor
namespace Go.Lift
noncomputable section
open Go.RowKit Go.ChangeShapes Go.WideShapes Go.ChangeAt
structure ArgRow(w:World)(b:ABlk)(p:Place):Prop where
  ro:p.ro=true
  bro:b.ro=true
  ver:b.ver=0
  es:p.es=b.es
  pos:0<p.es
  exact:p.exact=b.exact
  row: ∀ (φ:Map) (S:Nat→Prop),Row φ S b 0 p w
  bare:BareB b
def rowsMap(ps:List Place):Map:=fun i v=>if v=0 then ps[i]? else none
theorem HRel.of_args {w:World} {S:Nat→Prop} (l:List (ABlk×Place)) (h: ∀ x∈l,ArgRow w x.1 x.2):HRel (rowsMap (l.map (·.2))) S (AHeap.of (l.map (·.1))) w where
  dom i v p hp:=by
    unfold rowsMap at hp
    split at hp
    · rename_i hv;subst hv
      rw [List.getElem?_map,Option.map_eq_some_iff]at hp
      obtain⟨x,hx,rfl⟩:=hp
      have k:=h x (List.mem_of_getElem? hx)
      have hi:=(List.getElem?_eq_some_iff.1 hx).1
      refine⟨by rw [AHeap.of_next];simpa using hi,x.1,?_,by omega,k.es,k.exact,(fun h=>by rw [k.bro]at h;cases h),k.pos,k.row _ _⟩
      rw [AHeap.of_get,List.getElem?_map,hx];rfl
    · cases hp
  apart i v p j u q hp hq _ _:=by
    have: ∀ {i v p},rowsMap (l.map (·.2)) i v=some p→p.ro=true:=by
      intro i v p hp
      unfold rowsMap at hp
      split at hp
      · rw [List.getElem?_map,Option.map_eq_some_iff]at hp
        obtain⟨x,hx,rfl⟩:=hp
        exact(h x (List.mem_of_getElem? hx)).ro
      · cases hp
    exact⟨this hp,this hq⟩
  same i v p u q hp hq _:=by
    unfold rowsMap at hp hq
    split at hp
    · split at hq
      · rw [hp]at hq;simp only [Option.some.injEq]at hq;subst hq;exact⟨rfl,rfl⟩
      · cases hq
    · cases hp
def noBlk(es:Nat):ABlk:= {elems:= [],es,exact:=true,ro:=true,ver:=0,minVer:=0,forkLen:=0,ty:=none}
def noPlace(es:Nat):Place:= {blk:=0,off:=0,lo:=0,es,tot:=0,exact:=true,ro:=true}
theorem noRow {w:World}(hw:0<w.heap.size){es:Nat}(he:0<es):ArgRow w (noBlk es) (noPlace es) where
  ro:=rfl
  bro:=rfl
  ver:=rfl
  es:=rfl
  pos:=he
  exact:=rfl
  row φ S:=⟨hw,(fun h=>by cases h),fun o ho=>by simp [noPlace]at ho,(fun h=>by cases h),(fun h=>by cases h),(fun q h=>by cases h),fun i e h1 h2 h3=>by simp [noBlk]at h3⟩
  bare e he:=by simp [noBlk]at he
theorem open_ints_arg {w:World} (hw:0<w.heap.size) {k:IntKind} {a:Option Addr} {len cap:Nat} {zs:List Int}
    (h:(a=none∧len=0∧cap=0∧zs= [])∨ ∃ x,a=some x∧(0<cap→x.block<w.heap.size)∧len≤cap∧cap≤maxLen∧zs.length=cap∧(∀ i,i<zs.length→w.cell? (x.add i)=some (.int k (zs.getD i 0)))∧ ∀ n∈zs,(Lit.int k n).wf=true) (id:Nat) :
    ∃ (o:Option AAddr) (c:Nat) (b:ABlk) (p:Place),SlArg o len c id 0 0 1∧ArgRow w b p∧len≤maxLen∧(∀ φ:Map,φ id 0=some p→VRel φ (.slice o len c) (.slice a len cap)) ∧
      (∀ j,j<len→b.elem? 0 (0+j)=some (.int k (zs.getD j 0))∧(Lit.int k (zs.getD j 0)).wf=true):=by
  rcases h with ⟨rfl,rfl,rfl,rfl⟩ | ⟨x,rfl,hb,hl,hm,hz,hcell,hwf⟩
  · exact⟨none,0,noBlk 1,noPlace 1,.inr ⟨rfl,rfl,rfl⟩,noRow hw (by omega),by simp,fun φ _=>by simp [VRel],fun j hj=>by omega⟩
  · by_cases hcap:cap=0
    · subst hcap
      obtain rfl:len=0:=by omega
      refine⟨some ⟨id,0,0,0,1⟩,0,noBlk 1,noPlace 1,.inl rfl,noRow hw (by omega),by simp,fun φ hφ=> ?_,fun j hj=>by omega⟩
      simp only [VRel]
      exact⟨x,0,rfl,Nat.le_refl _,Nat.le_refl _,.inl ⟨rfl,_,hφ,rfl,.inl rfl,fun _=>rfl⟩⟩
    have hb:=hb (by omega)
    have hspot:0<cap→x.spot=none:=fun hc=>by
      have h0:=hcell 0 (by omega)
      simpa [Addr.add]using World.cell?_spot h0
    have hadd: ∀ i,i<cap→x.add i=⟨x.block,x.off+i,none⟩:=by
      intro i hi
      have hs:=hspot (by omega)
      obtain⟨bl,of,sp⟩:=x
      simp only at hs
      subst hs
      unfold Addr.add
      split
      · rename_i h0;subst h0;rfl
      · rfl
    refine⟨some ⟨id,0,0,0,1⟩,cap,{elems:=zs.map (.int k),es:=1,exact:=true,ro:=true,ver:=0,minVer:=0,forkLen:=0,ty:=none},{blk:=x.block,off:=x.off,lo:=0,es:=1,tot:=cap,exact:=true,ro:=true},.inl rfl,?_,by omega,?_,?_⟩
    · refine⟨rfl,rfl,rfl,rfl,by simp,rfl,fun φ S=>⟨hb,(fun h=>by cases h),?_,(fun h=>by cases h),(fun h=>by cases h),(fun q h=>by cases h),?_⟩,?_⟩
      · intro o ho
        simp only [Nat.mul_one]at ho
        have:=hcell o (by omega)
        rw [hadd o ho]at this
        simp only [this];rfl
      · intro i e _ _ he
        simp only [List.getElem?_map,Option.map_eq_some_iff]at he
        obtain⟨z,hz1,rfl⟩:=he
        have hi:=(List.getElem?_eq_some_iff.1 hz1).1
        refine⟨by simp [AVal.cells],by simp only;omega,fun j x' hx=> ?_⟩
        simp only [AVal.cells]at hx
        have hj:j=0:=by
          have:=(List.getElem?_eq_some_iff.1 hx).1;simpa using this
        subst hj
        simp only [List.getElem?_cons_zero,Option.some.injEq]at hx
        subst hx
        refine⟨.int k z,?_,by simp [VRel],by first | trivial | rfl⟩
        have h1:=hcell i hi
        rw [hadd i (by omega)]at h1
        simp only [Place.at,Nat.sub_zero,Nat.mul_one,Nat.add_zero]
        rw [h1,List.getD_eq_getElem?_getD,hz1];rfl
      · intro e he
        obtain⟨z,_,rfl⟩:=List.mem_map.1 he
        exact Bare.int k z
    · intro φ hφ
      simp only [VRel]
      refine⟨x,cap,rfl,hl,Nat.le_refl _,.inl ⟨rfl,_,hφ,rfl,?_,fun _=>rfl⟩⟩
      by_cases hc:cap=0
      · exact .inl hc
      · refine .inr ⟨Nat.le_refl _,?_,by simp⟩
        have:=hadd 0 (by omega)
        simp only [Addr.add,if_true]at this
        simpa [Place.at]using this
    · intro j hj
      have hj':j<zs.length:=by omega
      refine⟨?_,hwf _ ?_⟩
      · simp [ABlk.elem?,ABlk.lim,List.getD_eq_getElem?_getD,List.getElem?_eq_getElem hj',hj']
      · rw [List.getD_eq_getElem?_getD,List.getElem?_eq_getElem hj'];exact List.getElem_mem hj'
theorem FDoes.law {P:Program}{C:(Nat→Prop)→World→Prop}{f:FuncId}{args:List AVal}{h h':AHeap}(k:FDoes P C f args h (.bool true) h'){w:World}(hC:C (fun k=>k<w.heap.size) w){φ:Map}(hl:HRel φ (fun k=>k<w.heap.size) h w){args':Array Value}(ha:VRels φ args args'.toList) :
    Calls P f args' w fun e w'=>e= .returned (.bool true)∧Below w.heap.size w w':=by
  have:=(k (fun k=>k<w.heap.size) w (fun _ h=>h) hC _ w args' hl (Safe.refl _ _) ha).2
  exact this.mono fun e w' ⟨v',φ',h1,_,h2,_,h3,_⟩=>by
    simp only [VRel]at h2
    subst h2;exact⟨h1,h3.below⟩
end
end Go.Lift
namespace Go.Lift
noncomputable section
open Go.RowKit Go.ChangeShapes Go.WideShapes Go.ChangeAt
structure ArgRow2(φ:Map)(S:Nat→Prop)(w:World)(b:ABlk)(p:Place):Prop where
  ro:p.ro=true
  bro:b.ro=true
  ver:b.ver=0
  es:p.es=b.es
  pos:0<p.es
  exact:p.exact=b.exact
  row:Row φ S b 0 p w
theorem ArgRow.two {φ:Map}{S:Nat→Prop}{w:World}{b:ABlk}{p:Place}(h:ArgRow w b p):ArgRow2 φ S w b p:=⟨h.ro,h.bro,h.ver,h.es,h.pos,h.exact,h.row φ S⟩
theorem HRel.of_rows {w:World} {S:Nat→Prop} (l:List (ABlk×Place)) (h: ∀ x∈l,ArgRow2 (rowsMap (l.map (·.2))) S w x.1 x.2):HRel (rowsMap (l.map (·.2))) S (AHeap.of (l.map (·.1))) w where
  dom i v p hp:=by
    unfold rowsMap at hp
    split at hp
    · rename_i hv;subst hv
      rw [List.getElem?_map,Option.map_eq_some_iff]at hp
      obtain⟨x,hx,rfl⟩:=hp
      have k:=h x (List.mem_of_getElem? hx)
      have hi:=(List.getElem?_eq_some_iff.1 hx).1
      refine⟨by rw [AHeap.of_next];simpa using hi,x.1,?_,by omega,k.es,k.exact,(fun h=>by rw [k.bro]at h;cases h),k.pos,k.row⟩
      rw [AHeap.of_get,List.getElem?_map,hx];rfl
    · cases hp
  apart i v p j u q hp hq _ _:=by
    have: ∀ {i v p},rowsMap (l.map (·.2)) i v=some p→p.ro=true:=by
      intro i v p hp
      unfold rowsMap at hp
      split at hp
      · rw [List.getElem?_map,Option.map_eq_some_iff]at hp
        obtain⟨x,hx,rfl⟩:=hp
        exact(h x (List.mem_of_getElem? hx)).ro
      · cases hp
    exact⟨this hp,this hq⟩
  same i v p u q hp hq _:=by
    unfold rowsMap at hp hq
    split at hp
    · split at hq
      · rw [hp]at hq;simp only [Option.some.injEq]at hq;subst hq;exact⟨rfl,rfl⟩
      · cases hq
    · cases hp
theorem open_rows_arg {w:World} (hw:0<w.heap.size) {k:IntKind} {a:Addr} {len cap:Nat} {A:Nat→Option Addr} {L C:Nat→Nat} {Z:Nat→List Int} (hl:len≤cap) (hm:cap≤maxLen)
    (hx: ∀ r,r<cap→w.cell? (a.add r)=some (.slice (A r) (L r) (C r))∧L r≤C r∧C r≤maxLen∧(Z r).length=C r∧(∀ n∈Z r,(Lit.int k n).wf=true)∧(A r=none→C r=0)∧ ∀ a',A r=some a'→ ∀ c,c<C r→w.cell? (a'.add c)=some (.int k ((Z r).getD c 0))) (S:Nat→Prop) :
    ∃ (l:List (ABlk×Place)) (o:Nat→Option AAddr) (c:Nat→Nat),HRel (rowsMap (l.map (·.2))) S (AHeap.of (l.map (·.1))) w∧VRel (rowsMap (l.map (·.2))) (.slice (some ⟨0,0,0,0,1⟩) len cap) (.slice (some a) len cap) ∧
      (len≠0→0<(AHeap.of (l.map (·.1))).next∧ ∃ b,(AHeap.of (l.map (·.1))).get 0=some b∧ ∀ r,r<len→b.elem? 0 (0+r)=some (.slice (o r) (L r) (c r))∧ ∃ id b',SlArg (o r) (L r) (c r) id 0 0 1∧id<(AHeap.of (l.map (·.1))).next∧(AHeap.of (l.map (·.1))).get id=some b' ∧
        ∀ j,j<L r→b'.elem? 0 (0+j)=some (.int k ((Z r).getD j 0))∧(Lit.int k ((Z r).getD j 0)).wf=true):=by
  by_cases hcap:cap=0
  · subst hcap
    obtain rfl:len=0:=by omega
    refine⟨[(noBlk 1,noPlace 1)],fun _=>none,fun _=>0,HRel.of_args _ (fun x h=>by rw [List.mem_singleton.1 h];exact noRow hw (by omega)),?_,fun h=>absurd rfl h⟩
    simp only [VRel]
    exact⟨a,0,rfl,Nat.le_refl _,Nat.le_refl _,.inl ⟨rfl,_,rfl,rfl,.inl rfl,fun _=>rfl⟩⟩
  have each : ∀ r,∃ y:Option AAddr×Nat×ABlk×Place,r<cap→SlArg y.1 (L r) y.2.1 (1+r) 0 0 1∧ArgRow w y.2.2.1 y.2.2.2∧(∀ φ:Map,φ (1+r) 0=some y.2.2.2→VRel φ (.slice y.1 (L r) y.2.1) (.slice (A r) (L r) (C r))) ∧
      (∀ j,j<L r→y.2.2.1.elem? 0 (0+j)=some (.int k ((Z r).getD j 0))∧(Lit.int k ((Z r).getD j 0)).wf=true):=by
    intro r
    by_cases hr:r<cap
    · obtain⟨_,h1,h2,h3,h4,h5,h6⟩:=hx r hr
      obtain⟨o,c,b,p,q1,q2,q3,q4,q5⟩:=open_ints_arg (a:=A r) (len:=L r) (cap:=C r) (zs:=Z r) (k:=k) hw (by
        cases hA:A r with
        | none =>
          have:=h5 hA
          refine .inl ⟨rfl,by omega,this,?_⟩
          exact List.length_eq_zero_iff.1 (by omega)
        | some a' =>
          refine .inr ⟨a',rfl,fun h0=> ?_,h1,h2,h3,fun i hi=>h6 a' hA i (by omega),h4⟩
          have:=h6 a' hA 0 h0
          unfold World.cell? at this
          split at this
          · rename_i hb
            have hb':=(Array.getElem?_eq_some_iff.1 hb).1
            simpa [Addr.add]using hb'
          · cases this) (1+r)
      exact⟨(o,c,b,p),fun _=>⟨q1,q2,q4,q5⟩⟩
    · exact⟨(none,0,noBlk 1,noPlace 1),fun h=>absurd h hr⟩
  let y:=fun r=>Classical.choose (each r)
  have hy: ∀ r,r<cap→_:=fun r=>Classical.choose_spec (each r)
  have hspot:a.spot=none:=by
    have h0:=(hx 0 (by omega)).1
    simpa [Addr.add]using World.cell?_spot h0
  have hadd: ∀ i,i<cap→a.add i=⟨a.block,a.off+i,none⟩:=by
    intro i hi
    obtain⟨bl,of,sp⟩:=a
    simp only at hspot
    subst hspot
    unfold Addr.add
    split
    · rename_i h0;subst h0;rfl
    · rfl
  have hb:a.block<w.heap.size:=by
    have:=(hx 0 (by omega)).1
    unfold World.cell? at this
    split at this
    · rename_i hb
      have hb':=(Array.getElem?_eq_some_iff.1 hb).1
      simpa [Addr.add]using hb'
    · cases this
  let ob:ABlk:= {elems:=(List.range cap).map fun r=> .slice (y r).1 (L r) (y r).2.1,es:=1,exact:=true,ro:=true,ver:=0,minVer:=0,forkLen:=0,ty:=none}
  let op:Place:= {blk:=a.block,off:=a.off,lo:=0,es:=1,tot:=cap,exact:=true,ro:=true}
  let l:List (ABlk×Place):=(ob,op)::(List.range cap).map fun r=>((y r).2.2.1,(y r).2.2.2)
  have hln:l.length=1+cap:=by simp [l];omega
  have hlr: ∀ r,r<cap→l[1+r]? =some ((y r).2.2.1,(y r).2.2.2):=by
    intro r hr
    rw [show 1+r=r+1 by omega]
    simp [l,hr]
  have hmap: ∀ r,r<cap→rowsMap (l.map (·.2)) (1+r) 0=some (y r).2.2.2:=by
    intro r hr
    unfold rowsMap
    rw [if_pos rfl,List.getElem?_map,hlr r hr];rfl
  have hrow:Row (rowsMap (l.map (·.2))) S ob 0 op w:=by
    refine⟨hb,(fun h=>by cases h),?_,(fun h=>by cases h),(fun h=>by cases h),(fun q h=>by cases h),?_⟩
    · intro o ho
      have ho:o<cap:=by simpa [op]using ho
      have:=(hx o ho).1
      rw [hadd o ho]at this
      show(w.cell? ⟨a.block,a.off+o,none⟩).isSome=true
      rw [this];rfl
    · intro i e _ _ he
      have he:((List.range cap).map fun r=>AVal.slice (y r).1 (L r) (y r).2.1)[i]? =some e:=he
      rw [List.getElem?_map,Option.map_eq_some_iff]at he
      obtain⟨r,hr1,rfl⟩:=he
      have hi:i<cap:=by have:=(List.getElem?_eq_some_iff.1 hr1).1;simpa using this
      have hri:r=i:=by rw [List.getElem?_range hi]at hr1;simpa using hr1.symm
      subst hri
      refine⟨by simp [AVal.cells,op],by simpa [op]using hi,fun j x' hx'=> ?_⟩
      simp only [AVal.cells]at hx'
      have hj:j=0:=by
        have:=(List.getElem?_eq_some_iff.1 hx').1;simpa using this
      subst hj
      simp only [List.getElem?_cons_zero,Option.some.injEq]at hx'
      subst hx'
      refine⟨.slice (A r) (L r) (C r),?_,(hy r hi).2.2.1 _ (hmap r hi),rfl⟩
      have h1:=(hx r hi).1
      rw [hadd r hi]at h1
      simpa [Place.at,op]using h1
  refine⟨l,fun r=>(y r).1,fun r=>(y r).2.1,HRel.of_rows l ?_,?_,fun _=>⟨?_,ob,?_,fun r hr=>⟨?_,1+r,(y r).2.2.1,(hy r (by omega)).1,?_,?_,(hy r (by omega)).2.2.2⟩⟩⟩
  · intro x hxm
    rcases List.mem_cons.1 hxm with rfl | hxm
    · exact⟨rfl,rfl,rfl,rfl,by simp [op],rfl,hrow⟩
    · obtain⟨r,hr,rfl⟩:=List.mem_map.1 hxm
      exact(hy r (List.mem_range.1 hr)).2.1.two
  · simp only [VRel]
    refine⟨a,cap,rfl,hl,Nat.le_refl _,.inl ⟨rfl,op,?_,rfl,?_,fun _=>rfl⟩⟩
    · unfold rowsMap;rw [if_pos rfl];rfl
    · refine .inr ⟨Nat.le_refl _,?_,by simp [op]⟩
      have:=hadd 0 (by omega)
      simp only [Addr.add,if_true]at this
      simpa [Place.at,op]using this
  · rw [AHeap.of_next,List.length_map,hln];omega
  · rw [AHeap.of_get];rfl
  · have:ob.elem? 0 (0+r)=ob.elems[r]? :=by simp [ABlk.elem?,ABlk.lim,ob];omega
    rw [this]
    have hrc:r<cap:=by omega
    simp [ob,hrc]
  · rw [AHeap.of_next,List.length_map,hln];omega
  · rw [AHeap.of_get,List.getElem?_map,hlr r (by omega)];rfl
end
end Go.Lift
namespace Go.Proofs.YtddnafghiejcoaaGreatDoor
open Go.ChangeShapes Go.WideShapes Go.RowKit Go.Stop
open Go.Lift
set_option maxRecDepth 1000000
theorem gPowT:(Tryz.prog.globals[5]?).map (·.type)=some 179:=by kernel_rfl
theorem powCells:Tryz.prog.cellsOf 179=20:=by kernel_rfl
theorem u64Cells:Tryz.prog.cellsOf 151=1:=by kernel_rfl
theorem pow_of_laid {W:World}(h:laidMetH Tryz.prog Rows.keysPiecesRow.laid W):Lib.TabIs Tryz.prog W "internal/strconv.uint64pow10" .u64 Lib.pow10Tab:=by
  rw [MakeChecks.laidMetH_plain _ _ _ (by kernel_rfl)]at h
  exact Lib.tabIs_of_head gPow gPowT Tryz.underlying179 Tryz.underlying151 u64Cells powCells (laidMet.tail (laidMet.tail h))
noncomputable def laidWorld(os:Os):World :=
  {World.doorLaid Tryz.prog 96 os with heap:=(World.doorLaid Tryz.prog 96 os).heap.modify 8 fun
      | .cells _ t frozen=> .cells (Go.Pinned.utf8FirstZ.map fun(z:Nat)=>Value.int .u8 (z:Int)).toArray t frozen
      | o=>o}
theorem laidMet_of_bits {P:Program}{w:World}{l:List (String×DataW Unit)}(fuel M:Nat)(h:(DataW.laidRun P w fuel (l.map (·.1))).bind (fun x=>if nodupBits M x.2 0 && laidRowsB P w x.2 then some x.1 else none)=some l):laidMet P l w:=by
  simp only [Option.bind_eq_some_iff]at h
  obtain⟨x,hx,d⟩:=h
  split at d
  · rename_i hb
    simp only [Bool.and_eq_true]at hb
    simp only [Option.some.injEq]at d
    exact laidMet_of_run (ps:=x.2) fuel (by rw [hx,← d]) (decide_eq_true (nodupBits_sound hb.1).1) hb.2
  · cases d
theorem laid_met(os:Os)(args:Array Value):laidMetH Tryz.prog Rows.keysPiecesRow.laid ((laidWorld os).forCall (fun _ _=>0) ⟨#[],args,[]⟩).memory:=by
  rw [MakeChecks.laidMetH_plain _ _ _ (by kernel_rfl)]
  exact laidMet_of_bits 8 257 (by kernel_rfl)
theorem laid_shaped(os:Os)(args:Array Value):((laidWorld os).forCall (fun _ _=>0) ⟨#[],args,[]⟩).Shaped Tryz.prog:=World.shaped_of_RefB (by kernel_rfl) (by kernel_rfl)
theorem gSpT:(Tryz.prog.globals[0]?).map (·.type)=some 113:=by kernel_rfl
theorem spCells:Tryz.prog.cellsOf 113=256:=by kernel_rfl
theorem u8Cells:Tryz.prog.cellsOf 5=1:=by kernel_rfl
theorem gSyn:Tryz.prog.globalNamed "strconv.ErrSyntax" =some 3:=by kernel_rfl
theorem gRng:Tryz.prog.globalNamed "strconv.ErrRange" =some 4:=by kernel_rfl
theorem gSynT:(Tryz.prog.globals[3]?).map (·.type)=some 89:=by kernel_rfl
theorem gRngT:(Tryz.prog.globals[4]?).map (·.type)=some 89:=by kernel_rfl
theorem starE: "*" ++ "errors.errorString" = "*errors.errorString" :=by decide
theorem rowE(u:TypeId)(h:Tryz.prog.typeName? 3 u=some "*errors.errorString"):u=187 :=
  typeName_ptr_named (nm:= "errors.errorString") (by rw [starE];kernel_rfl) (by kernel_rfl) (by decide) u (by rw [starE];exact h)
theorem eCells:Tryz.prog.cellsOf 189=1:=by kernel_rfl
theorem strCells:Tryz.prog.cellsOf 9=1:=by kernel_rfl
theorem cell_of_var {P:Program}{W:World}{n:String}{g:Nat}{v:Value}(hg:P.globalNamed n=some g)(h:W.var? P n=some #[v]):W.cell? ⟨g,0,none⟩=some v∧g<W.heap.size:=by
  unfold World.var? at h
  rw [hg]at h
  simp only [Option.bind_some]at h
  split at h
  · rename_i cs t f hh
    simp only [Option.some.injEq]at h
    subst h
    refine⟨by simp [World.cell?,hh],(Array.getElem?_eq_some_iff.1 hh).1⟩
  · cases h
theorem tab_lt {W:World}{n:String}{g:Nat}{k:IntKind}{t:List Int}(hg:Tryz.prog.globalNamed n=some g)(h:Lib.TabIs Tryz.prog W n k t):g<W.heap.size:=by
  unfold Lib.TabIs World.var? at h
  rw [hg]at h
  simp only [Option.bind_some]at h
  rcases Nat.lt_or_ge g W.heap.size with k | k
  · exact k
  · rw [Array.getElem?_eq_none k]at h;cases h
theorem cnd_of_laid {W:World}(h:laidMetH Tryz.prog Rows.keysPiecesRow.laid W):cnd (fun k=>k<W.heap.size) W:=by
  have hp:=pow_of_laid h
  rw [MakeChecks.laidMetH_plain _ _ _ (by kernel_rfl)]at h
  have h4:=laidMet.tail (laidMet.tail (laidMet.tail (laidMet.tail h)))
  obtain⟨a,s,hr,_⟩:=laid_sentinel h4 gRng gRngT Tryz.underlying89 rowE Tryz.underlying187 Tryz.underlying189 rfl rfl Tryz.underlying9 eCells strCells
  have h5:=laidMet.tail h4
  obtain⟨a2,s2,hs,_⟩:=laid_sentinel h5 gSyn gSynT Tryz.underlying89 rowE Tryz.underlying187 Tryz.underlying189 rfl rfl Tryz.underlying9 eCells strCells
  have h7:=laidMet.tail (laidMet.tail h5)
  have ht:Lib.TabIs Tryz.prog W "strings.asciiSpace" .u8 Lib.asciiSpaceTab:=Lib.tabIs_of_head gSp gSpT Tryz.underlying113 Tryz.underlying5 u8Cells spCells (zs:=Lib.asciiSpaceTab) h7
  obtain⟨r1,r2⟩:=cell_of_var gRng hr
  obtain⟨s1,s2⟩:=cell_of_var gSyn hs
  exact⟨tab_lt gPow hp,hp,tab_lt gSp ht,ht,s2,⟨_,_,s1⟩,r2,⟨_,_,r1⟩⟩
end Go.Proofs.YtddnafghiejcoaaGreatDoor
namespace Go.Proofs.YtddnafghiejcoaaGreatDoor
open Go.ChangeShapes Go.WideShapes Go.ChangeAt Go.RowKit Go.Deep
open Go.Lift Go.Keys
set_option maxRecDepth 1000000
theorem mem_weightsAll {H:Type}{P:Program}{e:TypeId}{d:DataW H}{y:Nat} : ∀ {l:List (DataW H)},d∈l→y∈d.weights P e→y∈DataW.weightsAll P e l
  | [],h,_=>by simp at h
  | a::r,h,k=>by
    simp only [DataW.weightsAll,List.mem_append]
    rcases List.mem_cons.1 h with rfl | h
    · exact .inl k
    · exact .inr (mem_weightsAll h k)
theorem weights_one {H:Type}{P:Program}{t:TypeId}{d:DataW H}{R:Nat}(h: ∀ y∈DataW.weightsEach P [t] [d],y≤R): ∀ y∈d.weights P t,y≤R :=
  fun y hy=>h y (by simp [DataW.weightsEach,hy])
theorem wf_u8 {n:Int}(h:(Lit.int .u8 n).wf=true):0≤n∧n≤255:=by
  simp [Lit.wf,IntKind.min,IntKind.max,IntKind.signed,IntKind.bits]at h
  omega
def byteZ(z:Int):UInt8:=UInt8.ofNat z.toNat
theorem byteZ_nat {z:Int}(h:0≤z∧z≤255):((byteZ z).toNat:Int)=z:=by
  have:(byteZ z).toNat=z.toNat % 256:=by unfold byteZ;simp [UInt8.toNat_ofNat']
  rw [this];omega
abbrev pcs(len:Nat)(L:Nat→Nat)(Z:Nat→List Int):List Bytes:=(List.range len).map fun r=>((Z r).take (L r)).map byteZ
theorem pieces_walk {H:Type} {enc:TypeId×Value→H} {W:World} {v0:Value} {d0:DataW H} {p:List MemPlace} (hC:cnd (fun k=>k<W.heap.size) W) (hv: ∃ a len cap,v0= .slice a len cap) (h0:DataW.Trod enc Tryz.prog W 0 (fun _=>true) true 60 v0 d0 p) (hwt: ∀ y∈d0.weights Tryz.prog 60,y≤reachBytes) :
    Calls Tryz.prog 9 #[v0] W fun e w'=>e= .returned (.bool true)∧Below W.heap.size W w':=by
  have hsz:0<W.heap.size:=Nat.lt_of_le_of_lt (Nat.zero_le _) hC.p
  obtain⟨a,len,cap,rfl⟩:=hv
  obtain⟨fuel,hf⟩:=h0
  have hf':DataW.trod enc Tryz.prog W 0 (fun _=>true) true fuel 60 [.slice a len cap]=some (d0,p):=hf
  have c1:Tryz.prog.cellsOf 34=1:=by kernel_rfl
  have c2:Tryz.prog.cellsOf 5=1:=by kernel_rfl
  have bb:Tryz.prog.bytesOf 5=1:=by kernel_rfl
  have bs:Tryz.prog.bytesOf 34=24:=by kernel_rfl
  rcases open_int_rows Tryz.underlying60 Tryz.underlying34 Tryz.underlying5 c1 c2 hf' with ⟨hcs,_⟩ | ⟨a',len',cap',A,L,C,Z,hcs,_,hl,hm,hx,hr⟩
  · simp at hcs
    obtain⟨rfl,rfl,rfl⟩:=hcs
    obtain⟨h',k⟩:=pieces0_law (AHeap.of []) 0
    exact FDoes.law k hC (HRel.empty _ _ _) (by simp [VRels,VRel])
  · simp at hcs
    obtain⟨rfl,rfl,rfl⟩:=hcs
    simp only [Prod.mk.injEq]at hx
    obtain⟨rfl,_⟩:=hx
    have hlen:len≤reachBytes:=by
      have:=hwt ((((List.range len).map fun r=>intRow (H:=H) .u8 (A r) (L r) (Z r)).length+((List.range (cap-len)).map fun j=>intRow (H:=H) .u8 (A (len+j)) (L (len+j)) (Z (len+j))).length)*Tryz.prog.bytesOf 34) (by simp only [DataW.weights,Tryz.underlying60];exact List.mem_cons_self)
      simp only [List.length_map,List.length_range,bs]at this
      omega
    have hrow: ∀ r,r<len→L r≤reachBytes:=by
      intro r hlt
      obtain⟨_,q1,q2,q3,_,q5,_⟩:=hr r (by omega)
      cases hA:A r with
      | none=>have:=q5 hA;omega
      | some x =>
        have:=hwt (((lits (H:=H) .u8 ((Z r).take (L r))).length+(lits (H:=H) .u8 ((Z r).drop (L r))).length)*Tryz.prog.bytesOf 5) (by
          simp only [DataW.weights,Tryz.underlying60]
          refine List.mem_cons_of_mem _ (List.mem_append_left _ (mem_weightsAll (d:=intRow .u8 (A r) (L r) (Z r)) (List.mem_map.2 ⟨r,List.mem_range.2 hlt,rfl⟩) ?_))
          simp only [intRow,hA,DataW.weights,Tryz.underlying34]
          exact List.mem_cons_self)
        rw [bb]at this
        simp only [lits,List.length_map,List.length_take,List.length_drop]at this
        omega
    simp only [reachBytes]at hlen hrow
    obtain⟨l,o,c,hrel,hvr,hfacts⟩:=open_rows_arg (k:= .u8) hsz hl hm (fun r h=>by
      obtain⟨q0,q1,q2,q3,q4,q5,q6⟩:=hr r h
      exact⟨q0,q1,q2,q3,q4,q5,fun a' ha c hc=>(q6 a' ha).2 c hc⟩) (fun k=>k<W.heap.size)
    have hpl:(pcs len L Z).length=len:=by simp [pcs]
    have hpr: ∀ (r:Nat) (h:r<(pcs len L Z).length),(pcs len L Z)[r].length=L r:=by
      intro r h
      have hlt:r<len:=by rw [hpl]at h;exact h
      obtain⟨_,q1,_,q3,_⟩:=hr r (by omega)
      simp [pcs]
      omega
    have hp:PcAt (AHeap.of (l.map (·.1))) (fun _=>0) 0 0 0 (pcs len L Z):=by
      refine⟨fun hne=> ?_⟩
      have hne0:len≠0:=fun h=>hne (by rw [← List.length_eq_zero_iff,hpl];exact h)
      obtain⟨n0,b,hb,hrr⟩:=hfacts hne0
      refine⟨n0,rfl,b,hb,fun r h=> ?_⟩
      have hlt:r<len:=by rw [hpl]at h;exact h
      obtain⟨e1,id,b',hs,hid,hgid,hel⟩:=hrr r hlt
      refine⟨o r,c r,by rw [hpr r h];exact e1,⟨?_⟩⟩
      rcases hs with hs | ⟨hs,hz,_⟩
      · refine .inr ⟨id,0,0,hs,⟨b',hgid,fun j hj=> ?_⟩,hid,rfl⟩
        have hjl:j<L r:=by rw [hpr r h]at hj;exact hj
        obtain⟨q1,q2⟩:=hel j hjl
        rw [q1]
        have hjz:j<(Z r).length:=by
          obtain⟨_,q1,_,q3,_⟩:=hr r (by omega)
          omega
        have hzr:(pcs len L Z)[r][j]=byteZ ((Z r).getD j 0):=by
          simp [pcs,List.getD_eq_getElem?_getD,hjz]
        rw [hzr,byteZ_nat (wf_u8 q2)]
      · exact .inl ⟨hs,List.length_eq_zero_iff.1 (by rw [hpr r h];exact hz)⟩
    obtain⟨h',k⟩:=pieces_law (c:=cap) (by rw [hpl];omega) (fun r h=>by
      rw [hpr r h]
      have:=hrow r (by rw [hpl]at h;exact h)
      omega) hp
    rw [hpl]at k
    refine FDoes.law k hC hrel ?_
    simp only [VRels]
    exact⟨_,_,rfl,hvr,rfl⟩
end Go.Proofs.YtddnafghiejcoaaGreatDoor
