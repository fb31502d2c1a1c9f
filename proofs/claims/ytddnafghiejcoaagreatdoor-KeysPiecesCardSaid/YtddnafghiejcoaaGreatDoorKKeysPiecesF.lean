/-
  Parts of the proof of KeysPieces.
-/
import Derived.Test.YtddnafghiejcoaaGreatDoorKKeysPiecesE
set_option linter.unusedVariables false
set_option linter.unusedSimpArgs false
set_option linter.unusedSectionVars false
namespace Go.Proofs.YtddnafghiejcoaaGreatDoor
open Go.Lift Go.Keys
set_option maxRecDepth 1000000
set_option maxHeartbeats 4000000
theorem takeDrop(x:Bytes)(n k:Nat):List.take n (List.drop k (bytesA x))=bytesA ((x.drop k).take n):=by simp [bytesA,List.map_drop,List.map_take]
theorem sD2(x:Bytes)(c:UInt8)(h:2≤x.length):strOf (List.take (Int.toNat (((x.length+1:Nat):Int)-1)-2) (List.drop 2 (List.append (bytesA x) [AVal.int .u8 c.toNat])))=x.drop 2:=by
  show strOf (List.take _ (List.drop 2 (bytesA x++_)))=_
  rw [bytesA_snoc,takeDrop,strOf_bytesA,List.drop_append_of_le_length h,show Int.toNat (((x.length+1:Nat):Int)-1)-2=(x.drop 2).length by rw [List.length_drop];omega,List.take_append_of_le_length (Nat.le_refl _),List.take_length]
theorem lastA(x:Bytes)(h:x≠ []):(bytesA x)[0+Int.toNat ((x.length:Int)-1)]? =some (AVal.int .u8 (x.getLastD 0).toNat):=by
  have e:0+Int.toNat ((x.length:Int)-1)=x.length-1:=by omega
  rw [e]
  have:x[x.length-1]? =some (x.getLastD 0):=by
    rw [← List.getLast?_eq_getElem?,List.getLastD_eq_getLast?,List.getLast?_eq_some_getLast h];rfl
  unfold bytesA
  rw [List.getElem?_map,this];rfl
theorem lastI(x:Bytes)(h:x≠ []):intAt (bytesA x) (0+Int.toNat ((x.length:Int)-1))=(x.getLastD 0).toNat:=by
  unfold intAt
  rw [lastA x h]
theorem seqBad {D U K P O:ABlk}{h:AHeap}{pv ov:AVal}{ty uty:Option (TypeId×Nat)}{ver m fl:Nat}{kept paste:Bytes}{es:List Ev}{I0:Ids}{j0 j1 j2 j3:Int}{c:UInt8}(h5:Nat.ble 5 h.next=true)(e0:h.get 0=some (dRowV 0 (fnOf .sequence) 1 (.slice (some ⟨2,ver,0,0,1⟩) kept.length kept.length) pv false ov ty))(e1:h.get 1=some (uRowH [] j0 j1 j2 j3 uty))
    (e2:h.get 2=some (gRowB (bytesA kept) 1 ver m fl byteTy)) (e3:h.get 3=some P) (e4:h.get 4=some O) (hke:kept≠ []) (hp:PAt (AHeap.of [D,U,K,P,O]) 0 I0.p pv paste) (ho:OAt (AHeap.of [D,U,K,P,O]) 0 I0.o ov es) (hI:I0.u=1∧(I0.k=0∨I0.k=2)∧(I0.p=0∨I0.p=3)∧(I0.o=0∨I0.o=4)) (hk2:I0.k=2)
    (hes:es.length<2^30-8) {R:AHeap→Prop} (hR: ∀ h' I',DAt h' 0 I' (Keys.bad ⟨.sequence,kept,[],paste⟩ c).1 (es++(Keys.bad ⟨.sequence,kept,[],paste⟩ c).2)→Fr (AHeap.of [D,U,K,P,O]) h' 0 I0 I'→R h') :
    StepPre (2^30-8) badR h ⟨0,0,0,0,6⟩ c.toNat∧ ∀ h',StepP Keys.bad h ⟨0,0,0,0,6⟩ c.toNat h'→_root_.cond (Nat.ble 5 h'.next) (R h') False:=by
  have h5:=Nat.le_of_ble_eq_true h5
  exact step_leaf1 (s:=⟨.sequence,kept,[],paste⟩) rfl h5 (dat_pair (ks:= .grown []) (mk5 rfl h5 e0 e1 (.inr hk2) e3 e4 (kGrown (by decide) rfl rfl e2) (by omega) hp ho hI (.inr (.inr ⟨rfl,hk2⟩))) hke) hes (by simp) ⟨rfl,.inr rfl⟩ hR
theorem seqAt {D U K P O:ABlk}{h:AHeap}{pv ov:AVal}{ty uty:Option (TypeId×Nat)}{ver m fl len:Nat}{l:List AVal}{kept paste:Bytes}{es:List Ev}{I0:Ids}{j0 j1 j2 j3:Int}(h5:Nat.ble 5 h.next=true)(e0:h.get 0=some (dRowV 0 (fnOf .sequence) 1 (.slice (some ⟨2,ver,0,0,1⟩) len len) pv false ov ty))(e1:h.get 1=some (uRowH [] j0 j1 j2 j3 uty))
    (e2:h.get 2=some (gRowB l 1 ver m fl byteTy)) (e3:h.get 3=some P) (e4:h.get 4=some O) (hlen:len=kept.length) (hle:l=bytesA kept) (hke:kept≠ []) (hp:PAt (AHeap.of [D,U,K,P,O]) 0 I0.p pv paste) (ho:OAt (AHeap.of [D,U,K,P,O]) 0 I0.o ov es) (hI:I0.u=1∧(I0.k=0∨I0.k=2)∧(I0.p=0∨I0.p=3)∧(I0.o=0∨I0.o=4)) (hk2:I0.k=2) :
    ∃ I',DAt h 0 I' ⟨.sequence,kept,[],paste⟩ es∧Fr (AHeap.of [D,U,K,P,O]) h 0 I0 I':=by
  have h5:=Nat.le_of_ble_eq_true h5
  exact dat_leaf (s:=⟨.sequence,kept,[],paste⟩) (ks:= .grown []) (mk5 rfl h5 e0 e1 (.inr hk2) e3 e4 (kGrown (by decide) hlen hle e2) (by omega) hp ho hI (.inr (.inr ⟨rfl,hk2⟩))) hke
theorem seq_D {kept paste:Bytes}{c:UInt8}(h:64≤c.toNat∧c.toNat≤126):Keys.sequence ⟨.sequence,kept,[],paste⟩ c=Keys.done ⟨.sequence,kept++ [c],[],paste⟩ (kept.drop 2) c:=by
  simp only [Keys.sequence,if_pos h]
theorem seq_B {kept paste:Bytes}{c:UInt8}(h: ¬ (64≤c.toNat∧c.toNat≤126))(h2:c.toNat<32∨63<c.toNat∨48≤c.toNat∧(kept.getLastD 0).toNat<48):Keys.sequence ⟨.sequence,kept,[],paste⟩ c=Keys.bad ⟨.sequence,kept,[],paste⟩ c:=by
  simp only [Keys.sequence,if_neg h,if_pos h2]
theorem seq_T {kept paste:Bytes}{c:UInt8}(h: ¬ (64≤c.toNat∧c.toNat≤126))(h2: ¬ (c.toNat<32∨63<c.toNat∨48≤c.toNat∧(kept.getLastD 0).toNat<48))(h3:kept.length+1=64):Keys.sequence ⟨.sequence,kept,[],paste⟩ c=(⟨.ground,[],[],paste⟩,[EvBad (kept++ [c])]):=by
  simp only [Keys.sequence,if_neg h,if_neg h2,if_pos h3,tell]
theorem seq_M {kept paste:Bytes}{c:UInt8}(h: ¬ (64≤c.toNat∧c.toNat≤126))(h2: ¬ (c.toNat<32∨63<c.toNat∨48≤c.toNat∧(kept.getLastD 0).toNat<48))(h3:kept.length+1≠64):Keys.sequence ⟨.sequence,kept,[],paste⟩ c=(⟨.sequence,kept++ [c],[],paste⟩,[]):=by
  simp only [Keys.sequence,if_neg h,if_neg h2,if_neg h3]
set_option hygiene false in
def sequenceR(s:DS)(c:UInt8):Prop:=s.nx= .sequence∧s.hold= []∧2≤s.kept.length∧s.kept.length<64
theorem sequence_does {H:AHeap}{d:Nat}{I:Ids}{s:DS}{es:List Ev}{c:UInt8}(g:DAt H d I s es)(hes:es.length<2^30-8)(hR:sequenceR s c): ∃ H',FDoes Tryz.prog cnd 87 [.ptr (some ⟨d,0,0,0,6⟩),.int .u8 c.toNat] H (.tuple []) H' ∧
    ∃ I',DAt H' d I' (Keys.sequence s c).1 (es++(Keys.sequence s c).2)∧Fr H H' d I I':=by
  refine step_lift ?_ g
  intro ks kv pv ov ty uty j0 j1 j2 j3 K P O I0 hs gs hI
  obtain⟨hk,hp,ho⟩:=gs_parts gs
  obtain⟨nx,kept,hold,paste⟩:=s
  obtain⟨h2,h1,hl2,hl64⟩:=hR
  simp only at h1 h2 hl2 hl64 hs gs hk hp ho ⊢
  subst h1 h2
  have hks:ks= .grown []:=by
    cases ks with
    | grown j=>cases j with
      | nil=>rfl
      | cons a b=>exact hs.elim
    | _=>exact hs.elim
  subst hks
  have hke:kept≠ []:=hs
  obtain⟨hk0,ver,m,fl,rfl,hK⟩:=hk
  have hk2:I0.k=2:=by omega
  rw [hk2,AHeap.of_get]at hK
  simp only [List.getElem?_cons_zero,List.getElem?_cons_succ,Option.some.injEq,List.nil_append]at hK
  subst hK
  rw [hk2]at hp ho ⊢
  simp only [List.length_nil]at hp ho ⊢
  simp only [show decide (Nx.sequence=Nx.pasted)=false from rfl]at hp ho ⊢
  have hc0:=c.toNat_lt
  have hb1:=bytesA_len kept
  have hb2:=bytesA_len1 kept c
  have hla:=lastA kept hke
  generalize hL:AHeap.of [dRowV 0 (fnOf .sequence) 1 (.slice (some ⟨2,ver,0,0,1⟩) kept.length kept.length) pv false ov ty,uRowH [] j0 j1 j2 j3 uty,gRowB (bytesA kept) 1 ver m fl byteTy,P,O]=L at hp ho ⊢
  suffices hh: ∃ v h',FDoes Tryz.prog cnd 87 [.ptr (some ⟨0,0,0,0,6⟩),.int .u8 c.toNat] L v h' ∧
      (v= .tuple []∧ ∃ I',DAt h' 0 I' (Keys.sequence ⟨.sequence,kept,[],paste⟩ c).1 (es++(Keys.sequence ⟨.sequence,kept,[],paste⟩ c).2)∧Fr L h' 0 I0 I')by
    obtain⟨v,h',hd,rfl,q⟩:=hh
    exact⟨h',hd,q⟩
  have hM: ∀ {h:AHeap},¬ (64≤c.toNat∧c.toNat≤126)→ ¬ (c.toNat<32∨63<c.toNat∨48≤c.toNat∧(kept.getLastD 0).toNat<48)→kept.length+1≠64→Nat.ble 5 h.next=true→h.get 0=some (dRowV 0 (fnOf .sequence) 1 (.slice (some ⟨2,ver+1,0,0,1⟩) (kept.length+1) (kept.length+1)) pv false ov ty)→h.get 1=some (uRowH [] j0 j1 j2 j3 uty)→h.get 2=some (gRowB (bytesA kept++ [.int .u8 c.toNat]) 1 (ver+1) m (if m=ver then(bytesA kept).length else min fl (bytesA kept).length) byteTy)→h.get 3=some P→h.get 4=some O →
      True∧ ∃ I',DAt h 0 I' (Keys.sequence ⟨.sequence,kept,[],paste⟩ c).1 (es++(Keys.sequence ⟨.sequence,kept,[],paste⟩ c).2)∧Fr L h 0 I0 I':=by
    intro h a1 a2 a3 h5 e0 e1 e2 e3 e4
    rw [seq_M a1 a2 a3,List.append_nil]
    subst hL
    exact⟨trivial,seqAt (kept:=kept++ [c]) h5 e0 e1 e2 e3 e4 (by simp) (bytesA_snoc _ _) (by simp) hp ho hI hk2⟩
  have hD: ∀ {h:AHeap},(64≤c.toNat∧c.toNat≤126)→Nat.ble 5 h.next=true→h.get 0=some (dRowV 0 (fnOf .sequence) 1 (.slice (some ⟨2,ver+1,0,0,1⟩) (kept.length+1) (kept.length+1)) pv false ov ty)→h.get 1=some (uRowH [] j0 j1 j2 j3 uty)→h.get 2=some (gRowB (bytesA kept++ [.int .u8 c.toNat]) 1 (ver+1) m (if m=ver then(bytesA kept).length else min fl (bytesA kept).length) byteTy)→h.get 3=some P→h.get 4=some O →
      DonePre (2^30) h ⟨0,0,0,0,6⟩ (kept.drop 2) c.toNat∧ ∀ h',DoneP h ⟨0,0,0,0,6⟩ (kept.drop 2) c.toNat h'→_root_.cond (Nat.ble 5 h'.next) (True∧ ∃ I',DAt h' 0 I' (Keys.sequence ⟨.sequence,kept,[],paste⟩ c).1 (es++(Keys.sequence ⟨.sequence,kept,[],paste⟩ c).2)∧Fr L h' 0 I0 I') False:=by
    intro h a1 h5 e0 e1 e2 e3 e4
    rw [seq_D a1]
    subst hL
    obtain⟨I1,g1,fr1⟩:=seqAt (kept:=kept++ [c]) h5 e0 e1 e2 e3 e4 (by simp) (bytesA_snoc _ _) (by simp) hp ho hI hk2
    have h5:=Nat.le_of_ble_eq_true h5
    refine⟨⟨rfl,⟨I1,_,es,g1,by omega,rfl,rfl⟩,by omega,by rw [List.length_drop];omega⟩,fun h' t=> ?_⟩
    have hn:=t.next
    obtain⟨I',g',fr'⟩:=t.all I1 _ es g1 (by simp)
    rw [byteI_nat]at g'
    exact cond_ble (by omega) ⟨trivial,I',g',fr1.trans fr'⟩
  have hB: ∀ {h:AHeap},¬ (64≤c.toNat∧c.toNat≤126)→(c.toNat<32∨63<c.toNat∨48≤c.toNat∧(kept.getLastD 0).toNat<48)→Nat.ble 5 h.next=true→h.get 0=some (dRowV 0 (fnOf .sequence) 1 (.slice (some ⟨2,ver,0,0,1⟩) kept.length kept.length) pv false ov ty)→h.get 1=some (uRowH [] j0 j1 j2 j3 uty)→h.get 2=some (gRowB (bytesA kept) 1 ver m fl byteTy)→h.get 3=some P→h.get 4=some O →
      StepPre (2^30-8) badR h ⟨0,0,0,0,6⟩ c.toNat∧ ∀ h',StepP Keys.bad h ⟨0,0,0,0,6⟩ c.toNat h'→_root_.cond (Nat.ble 5 h'.next) (True∧ ∃ I',DAt h' 0 I' (Keys.sequence ⟨.sequence,kept,[],paste⟩ c).1 (es++(Keys.sequence ⟨.sequence,kept,[],paste⟩ c).2)∧Fr L h' 0 I0 I') False:=by
    intro h a1 a2 h5 e0 e1 e2 e3 e4
    rw [seq_B a1 a2]
    subst hL
    exact seqBad h5 e0 e1 e2 e3 e4 hke hp ho hI hk2 hes fun h' I' g fr=>⟨trivial,I',g,fr⟩
  have hT: ∀ {h:AHeap} {ev:AVal},¬ (64≤c.toNat∧c.toNat≤126)→ ¬ (c.toNat<32∨63<c.toNat∨48≤c.toNat∧(kept.getLastD 0).toNat<48)→kept.length+1=64→Nat.ble 5 h.next=true→h.get 0=some (dRowV 0 (fnOf .sequence) 1 (.slice (some ⟨2,ver+1,0,0,1⟩) (kept.length+1) (kept.length+1)) pv false ov ty)→h.get 1=some (uRowH [] j0 j1 j2 j3 uty)→h.get 2=some (gRowB (bytesA kept++ [.int .u8 c.toNat]) 1 (ver+1) m (if m=ver then(bytesA kept).length else min fl (bytesA kept).length) byteTy)→h.get 3=some P→h.get 4=some O→ev=evA (EvBad (kept++ [c])) →
      TellPre h ⟨0,0,0,0,6⟩ ev∧ ∀ h',TellP h ⟨0,0,0,0,6⟩ ev h'→_root_.cond (Nat.ble 5 h'.next) (True∧ ∃ I',DAt h' 0 I' (Keys.sequence ⟨.sequence,kept,[],paste⟩ c).1 (es++(Keys.sequence ⟨.sequence,kept,[],paste⟩ c).2)∧Fr L h' 0 I0 I') False:=by
    intro h ev a1 a2 a3 h5 e0 e1 e2 e3 e4 he
    rw [seq_T a1 a2 a3]
    subst hL
    exact charTell (kept:=kept++ [c]) h5 e0 e1 e2 e3 e4 (by simp) (bytesA_snoc _ _) hp ho hI hk2 he (by omega) (by simp) fun h' I' g fr=>⟨trivial,I',g,fr⟩
  rw [← hL]
  rw [← hL]at hM hD hB hT
  refine sequence_vc (fnOf .sequence) pv ov ty (uRowH [] j0 j1 j2 j3 uty) P O (bytesA kept) ver m fl kept.length c.toNat _ ?_
  delta zv66_2 zv35_3 zv35_12 zv35_7 zv35_1 zv29_2 zv35_4 zv66_3 zv32_0 zv35_11 zv35_6 zv35_0 zv66_1
  simp only [sC0,sD2 kept c hl2,lastI kept hke]
  repeat' (first
    | exact True.intro
    | assumption
    | exact hM (by omega) (by omega) (by omega) (by kernel_rfl) (by kernel_rfl) (by kernel_rfl) (by kernel_rfl) (by kernel_rfl) (by kernel_rfl)
    | exact hD (by omega) (by kernel_rfl) (by kernel_rfl) (by kernel_rfl) (by kernel_rfl) (by kernel_rfl) (by kernel_rfl)
    | exact hB (by omega) (by omega) (by kernel_rfl) (by kernel_rfl) (by kernel_rfl) (by kernel_rfl) (by kernel_rfl) (by kernel_rfl)
    | exact hT (by omega) (by omega) (by omega) (by kernel_rfl) (by kernel_rfl) (by kernel_rfl) (by kernel_rfl) (by kernel_rfl) (by kernel_rfl) rfl
    | (exfalso;omega)
    | intro _
    | refine And.intro ?_ ?_
    | rfl
    | omega
    | exact tkA _ _ _
    | exact tkB _ _ _ _)
theorem sequenceS_ok: ∀ args h a,stepS (2^30-8) sequenceR Keys.sequence args h=some a→a.Ok Tryz.prog cnd 87 args h:=stepS_ok fun H d I s es c g hes hl hR=>sequence_does g hes hR
def prefS:List AVal→AHeap→Option Alts:=pureS fun a=>match a with | [.str s,.str p]=>some (.bool (p.isPrefixOf s),[]) | _=>none
theorem prefS_ok: ∀ args h a,prefS args h=some a→a.Ok Tryz.prog cnd 146 args h:=by
  refine pureS_ok ?_
  intro args v ps e hp H
  split at e<;>first | (cases e;done) | skip
  simp only [Option.some.injEq,Prod.mk.injEq]at e
  obtain⟨rfl,rfl⟩:=e
  exact hasPre_does _ _ H
noncomputable def specsQ:Specs:=specs3.add 146 prefS
theorem specsQ_ok:SpecsOk Tryz.prog cnd specsQ:=specs3_ok.add prefS_ok
abbrev zv67_0(kv:Nat)(km:Nat)(kf:Nat)(kl:List AVal):ABlk:=⟨kl,1,false,false,kv,km,kf,some (5,0)⟩
abbrev zv67_1(f:Nat)(off:Nat)(kv:Nat)(n:Nat)(ov:AVal)(dty:Option (TypeId×Nat)):ABlk:=⟨[.agg [(zv29_2 f),.slice (some ⟨2,kv,off,0,1⟩) n n,.slice none 0 0,.bool true,.ptr (some ⟨1,0,0,0,5⟩),ov]],6,true,false,0,0,0,dty⟩
theorem pasN_vp(f off kv km kf n:Nat)(kl:List AVal)(ov:AVal)(U P O:ABlk)(dty:Option (TypeId×Nat))(K0:AExit→Facts→AHeap→Prop)(vc:(0<(n:Int)→kv=kv∧off+n≤List.length kl∧(∃ l,List.take n (List.drop (AAddr.idx ⟨2,kv,off,0,1⟩) (ABlk.elems (zv67_0 kv km kf kl)))=bytesA l)∧(List.isPrefixOf (strOf (List.take n (List.drop off kl))) (Array.toList #[27,91,50,48,49,126])=true→K0 (.exit 0) [(0,.ptr (some ⟨0,0,0,0,6⟩))] (AHeap.rowsT 20 [(0,(zv67_1 f off kv n ov dty)),(1,U),(2,(zv67_0 kv km kf kl)),(3,P),(4,O)]))∧(List.isPrefixOf (strOf (List.take n (List.drop off kl))) (Array.toList #[27,91,50,48,49,126])=false→((0:Int)≤0∧0<(n:Int))∧kv=kv∧kl[off+0]? =some (.int .u8 (intAt kl (off+0)))∧((0:Int)≤1∧1≤(n:Int)∧n≤n)∧K0 .normal [(0,.ptr (some ⟨0,0,0,0,6⟩))] (AHeap.rowsT 51 [(0,⟨[.agg [(zv29_2 f),.slice (some ⟨2,kv,off+1,0,1⟩) (n-1) (n-1),.slice (some ⟨38,0,0,0,1⟩) 1 1,.bool true,.ptr (some ⟨1,0,0,0,5⟩),ov]],6,true,false,0,0,0,dty⟩),(1,U),(2,(zv67_0 kv km kf kl)),(3,P),(4,O),(37,ABlk.made [.int .u8 (intAt kl (off+0))] 1 true),(38,ABlk.made [.int .u8 (intAt kl (off+0))] 1 false (some (5,0)))])))∧(¬0<(n:Int)→K0 (.exit 0) [(0,.ptr (some ⟨0,0,0,0,6⟩))] (AHeap.rowsT 20 [(0,(zv67_1 f off kv n ov dty)),(1,U),(2,(zv67_0 kv km kf kl)),(3,P),(4,O)]))) :
    ∃ e F1 h1,Runs Tryz.prog cnd 5 80 (loopAt Tryz.prog 129 0) [(0,.ptr (some ⟨0,0,0,0,6⟩))] (AHeap.rows 5 [(0,dRowV 0 f 1 (.slice (some ⟨2,kv,off,0,1⟩) n n) (.slice none 0 0) true ov dty),(1,U),(2,gRowB kl 1 kv km kf byteTy),(3,P),(4,O)]) e F1 h1∧K0 e F1 h1 :=
  tpath_runs env_ok mixed specsQ_ok (hs:= .br 1005 (hg 1011 (.br 1012 .nil (hg 3009 (hg 3010 (hg 4005 .nil))))) .nil) (keep:= [0]) (by kernel_rfl) vc
abbrev zv68_0(pv:Nat)(pm:Nat)(pf:Nat)(pl:List AVal):ABlk:=⟨pl,1,false,false,pv,pm,pf,some (5,0)⟩
abbrev zv68_1(f:Nat)(off:Nat)(kv:Nat)(n:Nat)(pv:Nat)(pn:Nat)(ov:AVal)(dty:Option (TypeId×Nat)):ABlk:=⟨[.agg [(zv29_2 f),.slice (some ⟨2,kv,off,0,1⟩) n n,.slice (some ⟨3,pv,0,0,1⟩) pn pn,.bool true,.ptr (some ⟨1,0,0,0,5⟩),ov]],6,true,false,0,0,0,dty⟩
theorem pas3_vp(f off kv km kf n pv pm pf pn:Nat)(kl pl:List AVal)(ov:AVal)(U O:ABlk)(dty:Option (TypeId×Nat))(K0:AExit→Facts→AHeap→Prop)(vc:(0<(n:Int)→kv=kv∧off+n≤List.length kl∧(∃ l,List.take n (List.drop (AAddr.idx ⟨2,kv,off,0,1⟩) (ABlk.elems (zv67_0 kv km kf kl)))=bytesA l)∧(List.isPrefixOf (strOf (List.take n (List.drop off kl))) (Array.toList #[27,91,50,48,49,126])=true→K0 (.exit 0) [(0,.ptr (some ⟨0,0,0,0,6⟩))] (AHeap.rowsT 20 [(0,(zv68_1 f off kv n pv pn ov dty)),(1,U),(2,(zv67_0 kv km kf kl)),(3,(zv68_0 pv pm pf pl)),(4,O)]))∧(List.isPrefixOf (strOf (List.take n (List.drop off kl))) (Array.toList #[27,91,50,48,49,126])=false→((pn:Int)<65536→((0:Int)≤0∧0<(n:Int))∧kv=kv∧kl[off+0]? =some (.int .u8 (intAt kl (off+0)))∧(pv=pv∧0+pn=List.length pl∧pn<pn+1∧(pn+1+(pn+1) / 4+512)*1≤281474976710656∧pn+1<4611686018427387904)∧((0:Int)≤1∧1≤(n:Int)∧n≤n)∧K0 .normal [(0,.ptr (some ⟨0,0,0,0,6⟩))] (AHeap.rowsT 51 [(0,{elems:= [.agg [(zv29_2 f),.slice (some ⟨2,kv,off+1,0,1⟩) (n-1) (n-1),.slice (some {id:=3,ver:=pv+1,idx:=0,fld:=0,es:=1}) (pn+1) (pn+1),.bool true,.ptr (some ⟨1,0,0,0,5⟩),ov]],es:=6,exact:=true,ro:=false,ver:=0,minVer:=0,forkLen:=0,ty:=dty}),(1,U),(2,(zv67_0 kv km kf kl)),(3,⟨pl++ [.int .u8 (intAt kl (off+0))],1,false,false,pv+1,pm,if pm=pv then List.length pl else min pf (List.length pl),some (5,0)⟩),(4,O),(37,ABlk.made [.int .u8 (intAt kl (off+0))] 1 true)]))∧(¬(pn:Int)<65536→((0:Int)≤1∧1≤(n:Int)∧n≤n)∧K0 .normal [(0,.ptr (some ⟨0,0,0,0,6⟩))] (AHeap.rowsT 35 [(0,⟨[.agg [(zv29_2 f),.slice (some ⟨2,kv,off+1,0,1⟩) (n-1) (n-1),.slice (some ⟨3,pv,0,0,1⟩) pn pn,.bool true,.ptr (some ⟨1,0,0,0,5⟩),ov]],6,true,false,0,0,0,dty⟩),(1,U),(2,(zv67_0 kv km kf kl)),(3,(zv68_0 pv pm pf pl)),(4,O)]))))∧(¬0<(n:Int)→K0 (.exit 0) [(0,.ptr (some ⟨0,0,0,0,6⟩))] (AHeap.rowsT 20 [(0,(zv68_1 f off kv n pv pn ov dty)),(1,U),(2,(zv67_0 kv km kf kl)),(3,(zv68_0 pv pm pf pl)),(4,O)]))) :
    ∃ e F1 h1,Runs Tryz.prog cnd 5 80 (loopAt Tryz.prog 129 0) [(0,.ptr (some ⟨0,0,0,0,6⟩))] (AHeap.rows 5 [(0,dRowV 0 f 1 (.slice (some ⟨2,kv,off,0,1⟩) n n) (.slice (some ⟨3,pv,0,0,1⟩) pn pn) true ov dty),(1,U),(2,gRowB kl 1 kv km kf byteTy),(3,gRowB pl 1 pv pm pf byteTy),(4,O)]) e F1 h1∧K0 e F1 h1 :=
  tpath_runs env_ok mixed specsQ_ok (hs:= .br 1005 (hg 1011 (.br 1012 .nil (.br 2005 (hg 3009 (hg 3010 (hg 3012 (hg 4005 .nil)))) (hg 4005 .nil)))) .nil) (keep:= [0]) (by kernel_rfl) vc
abbrev zv69_0(f:Nat)(off:Nat)(kv:Nat)(n:Nat)(pv:Nat)(pn:Nat)(ov:AVal)(dty:Option (TypeId×Nat)):ABlk:=⟨[.agg [(zv29_2 f),.slice (some ⟨2,kv,off,0,1⟩) n n,.slice (some ⟨30,pv,0,0,1⟩) pn pn,.bool true,.ptr (some ⟨1,0,0,0,5⟩),ov]],6,true,false,0,0,0,dty⟩
theorem pas30_vp(f off kv km kf n pv pm pf pn:Nat)(kl pl:List AVal)(ov:AVal)(U P O:ABlk)(dty:Option (TypeId×Nat))(K0:AExit→Facts→AHeap→Prop)(vc:(0<(n:Int)→kv=kv∧off+n≤List.length kl∧(∃ l,List.take n (List.drop (AAddr.idx ⟨2,kv,off,0,1⟩) (ABlk.elems (zv67_0 kv km kf kl)))=bytesA l)∧(List.isPrefixOf (strOf (List.take n (List.drop off kl))) (Array.toList #[27,91,50,48,49,126])=true→K0 (.exit 0) [(0,.ptr (some ⟨0,0,0,0,6⟩))] (AHeap.rowsT 55 [(0,(zv69_0 f off kv n pv pn ov dty)),(1,U),(2,(zv67_0 kv km kf kl)),(3,P),(4,O),(30,(zv68_0 pv pm pf pl))]))∧(List.isPrefixOf (strOf (List.take n (List.drop off kl))) (Array.toList #[27,91,50,48,49,126])=false→((pn:Int)<65536→((0:Int)≤0∧0<(n:Int))∧kv=kv∧kl[off+0]? =some (.int .u8 (intAt kl (off+0)))∧(pv=pv∧0+pn=List.length pl∧pn<pn+1∧(pn+1+(pn+1) / 4+512)*1≤281474976710656∧pn+1<4611686018427387904)∧((0:Int)≤1∧1≤(n:Int)∧n≤n)∧K0 .normal [(0,.ptr (some ⟨0,0,0,0,6⟩))] (AHeap.rowsT 86 [(0,{elems:= [.agg [(zv29_2 f),.slice (some ⟨2,kv,off+1,0,1⟩) (n-1) (n-1),.slice (some {id:=30,ver:=pv+1,idx:=0,fld:=0,es:=1}) (pn+1) (pn+1),.bool true,.ptr (some ⟨1,0,0,0,5⟩),ov]],es:=6,exact:=true,ro:=false,ver:=0,minVer:=0,forkLen:=0,ty:=dty}),(1,U),(2,(zv67_0 kv km kf kl)),(3,P),(4,O),(30,⟨pl++ [.int .u8 (intAt kl (off+0))],1,false,false,pv+1,pm,if pm=pv then List.length pl else min pf (List.length pl),some (5,0)⟩),(72,ABlk.made [.int .u8 (intAt kl (off+0))] 1 true)]))∧(¬(pn:Int)<65536→((0:Int)≤1∧1≤(n:Int)∧n≤n)∧K0 .normal [(0,.ptr (some ⟨0,0,0,0,6⟩))] (AHeap.rowsT 70 [(0,⟨[.agg [(zv29_2 f),.slice (some ⟨2,kv,off+1,0,1⟩) (n-1) (n-1),.slice (some ⟨30,pv,0,0,1⟩) pn pn,.bool true,.ptr (some ⟨1,0,0,0,5⟩),ov]],6,true,false,0,0,0,dty⟩),(1,U),(2,(zv67_0 kv km kf kl)),(3,P),(4,O),(30,(zv68_0 pv pm pf pl))]))))∧(¬0<(n:Int)→K0 (.exit 0) [(0,.ptr (some ⟨0,0,0,0,6⟩))] (AHeap.rowsT 55 [(0,(zv69_0 f off kv n pv pn ov dty)),(1,U),(2,(zv67_0 kv km kf kl)),(3,P),(4,O),(30,(zv68_0 pv pm pf pl))]))) :
    ∃ e F1 h1,Runs Tryz.prog cnd 5 80 (loopAt Tryz.prog 129 0) [(0,.ptr (some ⟨0,0,0,0,6⟩))] (AHeap.rows 40 [(0,dRowV 0 f 1 (.slice (some ⟨2,kv,off,0,1⟩) n n) (.slice (some ⟨30,pv,0,0,1⟩) pn pn) true ov dty),(1,U),(2,gRowB kl 1 kv km kf byteTy),(3,P),(4,O),(30,gRowB pl 1 pv pm pf byteTy)]) e F1 h1∧K0 e F1 h1 :=
  tpath_runs env_ok mixed specsQ_ok (hs:= .br 1005 (hg 1011 (.br 1012 .nil (.br 2005 (hg 3009 (hg 3010 (hg 3012 (hg 4005 .nil)))) (hg 4005 .nil)))) .nil) (keep:= [0]) (by kernel_rfl) vc
abbrev zv70_0(ver:Nat)(kv:Nat)(km:Nat)(kf:Nat)(kl:List AVal):ABlk:=⟨kl,1,false,false,kv,km,kf,some (5,0)⟩
abbrev zv70_1:AVal:=AVal.agg [.int .i8 4,.int .i32 0,.int .u8 0,.int .i64 0,.int .i64 0,.str []]
abbrev zv70_2(f:Nat)(ver:Nat)(kv:Nat)(off2:Nat)(n2:Nat)(ov:AVal)(dty:Option (TypeId×Nat)):ABlk:=⟨[.agg [(zv29_2 f),.slice (some ⟨2,kv,off2,0,1⟩) n2 n2,.slice none 0 0,.bool false,.ptr (some ⟨1,0,0,0,5⟩),ov]],6,true,false,0,0,0,dty⟩
theorem pasAN_vc(f off ver m fl n kv km kf off2 n2:Nat)(l kl:List AVal)(c:Int)(pv0 ov:AVal)(U P0 P O:ABlk)(dty:Option (TypeId×Nat))(K0:AVal→AHeap→Prop)(vc:(ver=ver∧off+n=List.length l∧n<n+1∧(n+1+(n+1) / 4+512)*1≤281474976710656∧n+1<4611686018427387904)∧Runs Tryz.prog cnd 5 80 (Code.loop (loopAt Tryz.prog 129 0)) [(0,.ptr (some ⟨0,0,0,0,6⟩))] (AHeap.rowsT 16 [(0,{elems:= [.agg [(zv29_2 f),.slice (some {id:=2,ver:=ver+1,idx:=off,fld:=0,es:=1}) (n+1) (n+1),pv0,.bool true,.ptr (some ⟨1,0,0,0,5⟩),ov]],es:=6,exact:=true,ro:=false,ver:=0,minVer:=0,forkLen:=0,ty:=dty}),(1,U),(2,⟨l++ [.int .u8 c],1,false,false,ver+1,m,if m=ver then List.length l else min fl (List.length l),some (5,0)⟩),(3,P0),(4,O),(11,ABlk.made [.int .u8 c] 1 true)]) (.exit 0) [(0,.ptr (some ⟨0,0,0,0,6⟩))] (AHeap.rowsT 40 [(0,dRowV 0 f 1 (.slice (some ⟨2,kv,off2,0,1⟩) n2 n2) (.slice none 0 0) true ov dty),(1,U),(2,gRowB kl 1 kv km kf byteTy),(3,P),(4,O)])∧((n2:Int)=6→TellPre (AHeap.rowsT 64 [(0,(zv70_2 f ver kv off2 n2 ov dty)),(1,U),(2,(zv70_0 ver kv km kf kl)),(3,P),(4,O)]) ⟨0,0,0,0,6⟩ (zv70_1)∧ ∀ (h8003:AHeap),TellP (AHeap.rowsT 64 [(0,(zv70_2 f ver kv off2 n2 ov dty)),(1,U),(2,(zv70_0 ver kv km kf kl)),(3,P),(4,O)]) ⟨0,0,0,0,6⟩ (zv70_1) h8003→bif Nat.ble 5 (h8003.next)then K0 (.tuple []) h8003 else False)∧(¬(n2:Int)=6→K0 (.tuple []) (AHeap.rowsT 46 [(0,⟨[.agg [(zv29_2 f),.slice (some ⟨2,kv,off2,0,1⟩) n2 n2,.slice none 0 0,.bool true,.ptr (some ⟨1,0,0,0,5⟩),ov]],6,true,false,0,0,0,dty⟩),(1,U),(2,(zv70_0 ver kv km kf kl)),(3,P),(4,O)]))) :
    ∃ v h1,FDoes Tryz.prog cnd 129 [.ptr (some ⟨0,0,0,0,6⟩),.int .u8 c] (AHeap.of [dRowV 0 f 1 (.slice (some ⟨2,ver,off,0,1⟩) n n) pv0 true ov dty,U,gRowB l 1 ver m fl byteTy,P0,O]) v h1∧K0 v h1 :=
  tcall_does env_ok mixed specsQ_ok (hs:=hg 7 (.hint (.keep [0]) (.hint (.loop [(0,.ptr (some ⟨0,0,0,0,6⟩))] (AHeap.rowsT 40 [(0,dRowV 0 f 1 (.slice (some ⟨2,kv,off2,0,1⟩) n2 n2) (.slice none 0 0) true ov dty),(1,U),(2,gRowB kl 1 kv km kf byteTy),(3,P),(4,O)]) (.exit 0)) (.br 5005 .nil .nil)))) (by kernel_rfl) vc
abbrev zv71_0(ver:Nat)(pv:Nat)(pm:Nat)(pf:Nat)(pl:List AVal):ABlk:=⟨pl,1,false,false,pv,pm,pf,some (5,0)⟩
abbrev zv71_1(pn:Nat)(pl:List AVal):AVal:=AVal.agg [.int .i8 4,.int .i32 0,.int .u8 0,.int .i64 0,.int .i64 0,.str (strOf (List.take pn pl))]
theorem pasA3_vc(f off ver m fl n kv km kf off2 n2 pv pm pf pn:Nat)(l kl pl:List AVal)(c:Int)(pv0 ov:AVal)(U P0 O:ABlk)(dty:Option (TypeId×Nat))(K0:AVal→AHeap→Prop)(vc:(ver=ver∧off+n=List.length l∧n<n+1∧(n+1+(n+1) / 4+512)*1≤281474976710656∧n+1<4611686018427387904)∧Runs Tryz.prog cnd 5 80 (Code.loop (loopAt Tryz.prog 129 0)) [(0,.ptr (some ⟨0,0,0,0,6⟩))] (AHeap.rowsT 16 [(0,{elems:= [.agg [(zv29_2 f),.slice (some {id:=2,ver:=ver+1,idx:=off,fld:=0,es:=1}) (n+1) (n+1),pv0,.bool true,.ptr (some ⟨1,0,0,0,5⟩),ov]],es:=6,exact:=true,ro:=false,ver:=0,minVer:=0,forkLen:=0,ty:=dty}),(1,U),(2,⟨l++ [.int .u8 c],1,false,false,ver+1,m,if m=ver then List.length l else min fl (List.length l),some (5,0)⟩),(3,P0),(4,O),(11,ABlk.made [.int .u8 c] 1 true)]) (.exit 0) [(0,.ptr (some ⟨0,0,0,0,6⟩))] (AHeap.rowsT 40 [(0,dRowV 0 f 1 (.slice (some ⟨2,kv,off2,0,1⟩) n2 n2) (.slice (some ⟨3,pv,0,0,1⟩) pn pn) true ov dty),(1,U),(2,gRowB kl 1 kv km kf byteTy),(3,gRowB pl 1 pv pm pf byteTy),(4,O)])∧((n2:Int)=6→pv=pv∧0+pn≤List.length pl∧(∃ l,List.take pn (List.drop (AAddr.idx ⟨3,pv,0,0,1⟩) (ABlk.elems (zv71_0 ver pv pm pf pl)))=bytesA l)∧TellPre (AHeap.rowsT 64 [(0,(zv70_2 f ver kv off2 n2 ov dty)),(1,U),(2,(zv70_0 ver kv km kf kl)),(3,(zv71_0 ver pv pm pf pl)),(4,O)]) ⟨0,0,0,0,6⟩ ((zv71_1 pn pl))∧ ∀ (h8003:AHeap),TellP (AHeap.rowsT 64 [(0,(zv70_2 f ver kv off2 n2 ov dty)),(1,U),(2,(zv70_0 ver kv km kf kl)),(3,(zv71_0 ver pv pm pf pl)),(4,O)]) ⟨0,0,0,0,6⟩ ((zv71_1 pn pl)) h8003→bif Nat.ble 5 (h8003.next)then K0 (.tuple []) h8003 else False)∧(¬(n2:Int)=6→K0 (.tuple []) (AHeap.rowsT 46 [(0,⟨[.agg [(zv29_2 f),.slice (some ⟨2,kv,off2,0,1⟩) n2 n2,.slice (some ⟨3,pv,0,0,1⟩) pn pn,.bool true,.ptr (some ⟨1,0,0,0,5⟩),ov]],6,true,false,0,0,0,dty⟩),(1,U),(2,(zv70_0 ver kv km kf kl)),(3,(zv71_0 ver pv pm pf pl)),(4,O)]))) :
    ∃ v h1,FDoes Tryz.prog cnd 129 [.ptr (some ⟨0,0,0,0,6⟩),.int .u8 c] (AHeap.of [dRowV 0 f 1 (.slice (some ⟨2,ver,off,0,1⟩) n n) pv0 true ov dty,U,gRowB l 1 ver m fl byteTy,P0,O]) v h1∧K0 v h1 :=
  tcall_does env_ok mixed specsQ_ok (hs:=hg 7 (.hint (.keep [0]) (.hint (.loop [(0,.ptr (some ⟨0,0,0,0,6⟩))] (AHeap.rowsT 40 [(0,dRowV 0 f 1 (.slice (some ⟨2,kv,off2,0,1⟩) n2 n2) (.slice (some ⟨3,pv,0,0,1⟩) pn pn) true ov dty),(1,U),(2,gRowB kl 1 kv km kf byteTy),(3,gRowB pl 1 pv pm pf byteTy),(4,O)]) (.exit 0)) (.br 5005 (hg 6004 .nil) .nil)))) (by kernel_rfl) vc
theorem pasA30_vc(f off ver m fl n kv km kf off2 n2 pv pm pf pn:Nat)(l kl pl:List AVal)(c:Int)(pv0 ov:AVal)(U P0 P O:ABlk)(dty:Option (TypeId×Nat))(K0:AVal→AHeap→Prop)(vc:(ver=ver∧off+n=List.length l∧n<n+1∧(n+1+(n+1) / 4+512)*1≤281474976710656∧n+1<4611686018427387904)∧Runs Tryz.prog cnd 5 80 (Code.loop (loopAt Tryz.prog 129 0)) [(0,.ptr (some ⟨0,0,0,0,6⟩))] (AHeap.rowsT 16 [(0,{elems:= [.agg [(zv29_2 f),.slice (some {id:=2,ver:=ver+1,idx:=off,fld:=0,es:=1}) (n+1) (n+1),pv0,.bool true,.ptr (some ⟨1,0,0,0,5⟩),ov]],es:=6,exact:=true,ro:=false,ver:=0,minVer:=0,forkLen:=0,ty:=dty}),(1,U),(2,⟨l++ [.int .u8 c],1,false,false,ver+1,m,if m=ver then List.length l else min fl (List.length l),some (5,0)⟩),(3,P0),(4,O),(11,ABlk.made [.int .u8 c] 1 true)]) (.exit 0) [(0,.ptr (some ⟨0,0,0,0,6⟩))] (AHeap.rowsT 40 [(0,dRowV 0 f 1 (.slice (some ⟨2,kv,off2,0,1⟩) n2 n2) (.slice (some ⟨30,pv,0,0,1⟩) pn pn) true ov dty),(1,U),(2,gRowB kl 1 kv km kf byteTy),(3,P),(4,O),(30,gRowB pl 1 pv pm pf byteTy)])∧((n2:Int)=6→pv=pv∧0+pn≤List.length pl∧(∃ l,List.take pn (List.drop (AAddr.idx ⟨30,pv,0,0,1⟩) (ABlk.elems (zv71_0 ver pv pm pf pl)))=bytesA l)∧TellPre (AHeap.rowsT 64 [(0,(zv70_2 f ver kv off2 n2 ov dty)),(1,U),(2,(zv70_0 ver kv km kf kl)),(3,P),(4,O),(30,(zv71_0 ver pv pm pf pl))]) ⟨0,0,0,0,6⟩ ((zv71_1 pn pl))∧ ∀ (h8003:AHeap),TellP (AHeap.rowsT 64 [(0,(zv70_2 f ver kv off2 n2 ov dty)),(1,U),(2,(zv70_0 ver kv km kf kl)),(3,P),(4,O),(30,(zv71_0 ver pv pm pf pl))]) ⟨0,0,0,0,6⟩ ((zv71_1 pn pl)) h8003→bif Nat.ble 5 (h8003.next)then K0 (.tuple []) h8003 else False)∧(¬(n2:Int)=6→K0 (.tuple []) (AHeap.rowsT 46 [(0,⟨[.agg [(zv29_2 f),.slice (some ⟨2,kv,off2,0,1⟩) n2 n2,.slice (some ⟨30,pv,0,0,1⟩) pn pn,.bool true,.ptr (some ⟨1,0,0,0,5⟩),ov]],6,true,false,0,0,0,dty⟩),(1,U),(2,(zv70_0 ver kv km kf kl)),(3,P),(4,O),(30,(zv71_0 ver pv pm pf pl))]))) :
    ∃ v h1,FDoes Tryz.prog cnd 129 [.ptr (some ⟨0,0,0,0,6⟩),.int .u8 c] (AHeap.of [dRowV 0 f 1 (.slice (some ⟨2,ver,off,0,1⟩) n n) pv0 true ov dty,U,gRowB l 1 ver m fl byteTy,P0,O]) v h1∧K0 v h1 :=
  tcall_does env_ok mixed specsQ_ok (hs:=hg 7 (.hint (.keep [0]) (.hint (.loop [(0,.ptr (some ⟨0,0,0,0,6⟩))] (AHeap.rowsT 40 [(0,dRowV 0 f 1 (.slice (some ⟨2,kv,off2,0,1⟩) n2 n2) (.slice (some ⟨30,pv,0,0,1⟩) pn pn) true ov dty),(1,U),(2,gRowB kl 1 kv km kf byteTy),(3,P),(4,O),(30,gRowB pl 1 pv pm pf byteTy)]) (.exit 0)) (.br 5005 (hg 6004 .nil) .nil)))) (by kernel_rfl) vc
theorem pas0N_vc(f:Nat)(c:Int)(ov:AVal)(U K P O:ABlk)(dty:Option (TypeId×Nat))(K0:AVal→AHeap→Prop)(vc:(List.isPrefixOf [UInt8.ofNat (Int.toNat c)] (Array.toList #[27,91,50,48,49,126])=true→K0 (.tuple []) (AHeap.rowsT 37 [(0,⟨[.agg [(zv29_2 f),.slice (some ⟨12,0,0,0,1⟩) 1 1,.slice none 0 0,.bool true,.ptr (some ⟨1,0,0,0,5⟩),ov]],6,true,false,0,0,0,dty⟩),(1,U),(2,K),(3,P),(4,O),(11,ABlk.made [.int .u8 c] 1 true),(12,ABlk.made [.int .u8 c] 1 false (some (5,0)))]))∧(List.isPrefixOf [UInt8.ofNat (Int.toNat c)] (Array.toList #[27,91,50,48,49,126])=false→K0 (.tuple []) (AHeap.rowsT 83 [(0,⟨[.agg [(zv29_2 f),.slice (some ⟨12,0,1,0,1⟩) 0 0,.slice (some ⟨49,0,0,0,1⟩) 1 1,.bool true,.ptr (some ⟨1,0,0,0,5⟩),ov]],6,true,false,0,0,0,dty⟩),(1,U),(2,K),(3,P),(4,O),(11,ABlk.made [.int .u8 c] 1 true),(12,ABlk.made [.int .u8 c] 1 false (some (5,0))),(48,ABlk.made [.int .u8 c] 1 true),(49,ABlk.made [.int .u8 c] 1 false (some (5,0)))]))) :
    ∃ v h1,FDoes Tryz.prog cnd 129 [.ptr (some ⟨0,0,0,0,6⟩),.int .u8 c] (AHeap.of [dRowV 0 f 1 (.slice none 0 0) (.slice none 0 0) true ov dty,U,K,P,O]) v h1∧K0 v h1 :=
  tcall_does env_ok mixed specsQ_ok (hs:= .hint (.rounds 300) (.br 1012 .nil .nil)) (by kernel_rfl) vc
theorem pas03_vc(f pv pm pf pn:Nat)(pl:List AVal)(c:Int)(ov:AVal)(U K O:ABlk)(dty:Option (TypeId×Nat))(K0:AVal→AHeap→Prop)(vc:(List.isPrefixOf [UInt8.ofNat (Int.toNat c)] (Array.toList #[27,91,50,48,49,126])=true→K0 (.tuple []) (AHeap.rowsT 37 [(0,⟨[.agg [(zv29_2 f),.slice (some ⟨12,0,0,0,1⟩) 1 1,.slice (some ⟨3,pv,0,0,1⟩) pn pn,.bool true,.ptr (some ⟨1,0,0,0,5⟩),ov]],6,true,false,0,0,0,dty⟩),(1,U),(2,K),(3,(zv68_0 pv pm pf pl)),(4,O),(11,ABlk.made [.int .u8 c] 1 true),(12,ABlk.made [.int .u8 c] 1 false (some (5,0)))]))∧(List.isPrefixOf [UInt8.ofNat (Int.toNat c)] (Array.toList #[27,91,50,48,49,126])=false→((pn:Int)<65536→(pv=pv∧0+pn=List.length pl∧pn<pn+1∧(pn+1+(pn+1) / 4+512)*1≤281474976710656∧pn+1<4611686018427387904)∧K0 (.tuple []) (AHeap.rowsT 83 [(0,{elems:= [.agg [(zv29_2 f),.slice (some ⟨12,0,1,0,1⟩) 0 0,.slice (some {id:=3,ver:=pv+1,idx:=0,fld:=0,es:=1}) (pn+1) (pn+1),.bool true,.ptr (some ⟨1,0,0,0,5⟩),ov]],es:=6,exact:=true,ro:=false,ver:=0,minVer:=0,forkLen:=0,ty:=dty}),(1,U),(2,K),(3,⟨pl++ [.int .u8 c],1,false,false,pv+1,pm,if pm=pv then List.length pl else min pf (List.length pl),some (5,0)⟩),(4,O),(11,ABlk.made [.int .u8 c] 1 true),(12,ABlk.made [.int .u8 c] 1 false (some (5,0))),(48,ABlk.made [.int .u8 c] 1 true)]))∧(¬(pn:Int)<65536→K0 (.tuple []) (AHeap.rowsT 67 [(0,⟨[.agg [(zv29_2 f),.slice (some ⟨12,0,1,0,1⟩) 0 0,.slice (some ⟨3,pv,0,0,1⟩) pn pn,.bool true,.ptr (some ⟨1,0,0,0,5⟩),ov]],6,true,false,0,0,0,dty⟩),(1,U),(2,K),(3,(zv68_0 pv pm pf pl)),(4,O),(11,ABlk.made [.int .u8 c] 1 true),(12,ABlk.made [.int .u8 c] 1 false (some (5,0)))])))) :
    ∃ v h1,FDoes Tryz.prog cnd 129 [.ptr (some ⟨0,0,0,0,6⟩),.int .u8 c] (AHeap.of [dRowV 0 f 1 (.slice none 0 0) (.slice (some ⟨3,pv,0,0,1⟩) pn pn) true ov dty,U,K,gRowB pl 1 pv pm pf byteTy,O]) v h1∧K0 v h1 :=
  tcall_does env_ok mixed specsQ_ok (hs:= .hint (.rounds 300) (.br 1012 .nil (.br 2005 (hg 3012 .nil) .nil))) (by kernel_rfl) vc
abbrev pasD(f kv off n:Nat)(pv ov:AVal)(dty:Option (TypeId×Nat)):ABlk:=dRowV 0 f 1 (.slice (some ⟨2,kv,off,0,1⟩) n n) pv true ov dty
abbrev pasF:Facts:= [(0,.ptr (some ⟨0,0,0,0,6⟩))]
theorem pasD_clo {D:Nat→Prop}{f kv off n:Nat}{pv ov:AVal}{dty:Option (TypeId×Nat)}(h0:D 0)(h1:D 1)(h2:D 2)(hp:Clo D pv)(ho:Clo D ov): ∀ e∈(pasD f kv off n pv ov dty).elems,Clo D e:=by
  intro e he
  rw [List.mem_singleton.1 he]
  simp only [Clo,Clos]
  exact⟨⟨⟨h0,trivial⟩,trivial⟩,h2,hp,trivial,h1,ho,trivial⟩
theorem pasD_ren {r:Nat→Nat}{f kv off n:Nat}{pv ov:AVal}{dty:Option (TypeId×Nat)}(h0:r 0=0)(h1:r 1=1)(h2:r 2=2)(ho:ov.ren r=ov):(pasD f kv off n pv ov dty).ren r=pasD f kv off n (pv.ren r) ov dty:=by
  simp [ABlk.ren,ABlk.made,AVal.ren,AVal.rens,AAddr.ren,h0,h1,h2,ho]
def Five:Nat→Prop:=fun i=>i=0∨i=1∨i=2∨i=3∨i=4
theorem kcut {X kept:Bytes}{off:Nat}(h:X.drop off=kept):List.take kept.length (List.drop off (bytesA X))=bytesA kept:=by
  have:List.drop off (bytesA X)=bytesA (X.drop off):=by simp [bytesA,List.map_drop]
  rw [this,h,← len_bytesA,List.take_length]
theorem khead {X r:Bytes}{b:UInt8}{off:Nat}(h:X.drop off=b::r):(bytesA X)[off]? =some (.int .u8 (b.toNat:Int)):=by
  have h1:X[off]? =some b:=by
    have:=congrArg (fun l=>l[0]?) h
    simpa [List.getElem?_drop]using this
  simp [bytesA,h1]
theorem khint {X r:Bytes}{b:UInt8}{off:Nat}(h:X.drop off=b::r):intAt (bytesA X) off=(b.toNat:Int):=by unfold intAt;rw [khead h]
theorem kdrop {X r:Bytes}{b:UInt8}{off:Nat}(h:X.drop off=b::r):X.drop (off+1)=r:=by
  rw [← List.drop_drop,h];rfl
theorem klen {X k:Bytes}{off:Nat}(h:X.drop off=k)(ho:off≤X.length):off+k.length=X.length:=by rw [← h,List.length_drop];omega
theorem bytesA_snoc1(p:Bytes)(b:UInt8):bytesA p++ [AVal.int .u8 (b.toNat:Int)]=bytesA (p++ [b]):=by simp [bytesA]
theorem shift_nil(n:Nat)(p:Bytes):shift n [] p=([],p):=by cases n<;>rfl
theorem clo_five {K:List Nat}{ov:AVal}(h:Clo Five ov)(hK: ∀ i,Five i→i∈K):Clo (Go.Lift.Ids K) ov:=Clo.mono hK h
section
variable(f kv km kf:Nat)(X:Bytes)(U P O:ABlk)(ov:AVal)(dty:Option (TypeId×Nat))
abbrev mem3(off n pv pm pf:Nat)(paste:Bytes):List (Nat×ABlk):= [(0,pasD f kv off n (.slice (some ⟨3,pv,0,0,1⟩) paste.length paste.length) ov dty),(1,U),(2,gRowB (bytesA X) 1 kv km kf byteTy),(3,gRowB (bytesA paste) 1 pv pm pf byteTy),(4,O)]
theorem pas_ent3 {K:Nat}(hK:5≤K){h:AHeap}{j off n pv pm pf:Nat}{paste:Bytes}(hj:j=3)(bU:BareB U)(bP:BareB P)(bO:BareB O)(co:Clo Five ov)
    (e0:h.get 0=some (pasD f kv off n (.slice (some ⟨j,pv,0,0,1⟩) paste.length paste.length) ov dty)) (e1:h.get 1=some U) (e2:h.get 2=some (gRowB (bytesA X) 1 kv km kf byteTy)) (e3:h.get 3=h.get 3) (e4:h.get 4=some O) (ej:h.get j=some (gRowB (bytesA paste) 1 pv pm pf byteTy)) :
    Ent 5 80 pasF h pasF (AHeap.rows K (mem3 f kv km kf X U O ov dty off n pv pm pf paste)):=by
  have hjb:Nat.ble 5 j=true∨j=3:=by first | exact .inr hj | exact .inl (Nat.ble_eq.mpr hj)
  have hr: ∀ i,Five i→(fun k=>if k=3 then j else k) i=i:=by
    intro i hi
    have:i=0∨i=1∨i=2∨i=3∨i=4:=hi
    simp only
    split<;>omega
  refine Ent.move (K:=K) (l:=mem3 f kv km kf X U O ov dty off n pv pm pf paste) (fun k=>if k=3 then j else k) ?_ ?_ ?_ ?_ ?_ ?_ rfl ?_ ?_
  · have hd:=pasD_ren (r:=fun k=>if k=3 then j else k) (f:=f) (kv:=kv) (off:=off) (n:=n) (pv:= .slice (some ⟨3,pv,0,0,1⟩) paste.length paste.length) (dty:=dty) (by simp) (by simp) (by simp) (AVal.ren_on hr co)
    simp only [List.map_cons,List.map_nil,hd,bU.ren,bP.ren,bO.ren,(gRowB_bare (bytesA_bare X) 1 kv km kf byteTy).ren,(gRowB_bare (bytesA_bare paste) 1 pv pm pf byteTy).ren]
    simp [e0,e1,e2,e3,e4,ej,AVal.ren,AAddr.ren]
  · simp [List.all_cons];omega
  · simp;omega
  · subst hj;rfl
  · subst hj;rfl
  · simp [AVal.ren,AAddr.ren]
  · exact All.cons (by show(0:Nat)∈_;simp) All.nil
  · exact All.cons (pasD_clo (by show(0:Nat)∈_;simp) (by show(1:Nat)∈_;simp) (by show(2:Nat)∈_;simp) (by show(3:Nat)∈_;simp) (clo_five co (by intro i hi;have:i=0∨i=1∨i=2∨i=3∨i=4:=hi;simp;omega))) (All.cons (fun e he=>(bU e he).clo _) (All.cons (fun e he=>(bytesA_bare X e he).clo _) (All.cons (fun e he=>(bytesA_bare paste e he).clo _) (All.cons (fun e he=>(bO e he).clo _) All.nil))))
theorem pas3_loop (bU:BareB U) (bP:BareB P) (bO:BareB O) (co:Clo Five ov): ∀ (fuel:Nat) (kept paste:Bytes) (off pv pm pf:Nat),kept.length≤fuel→X.drop off=kept→off≤X.length→paste.length≤65536→ ∃ pv' pm' pf',
    Loops Tryz.prog cnd 5 80 (loopAt Tryz.prog 129 0) pasF (AHeap.rows 5 (mem3 f kv km kf X U O ov dty off kept.length pv pm pf paste)) (.exit 0) pasF
      (AHeap.rows 40 (mem3 f kv km kf X U O ov dty (X.length- (shift fuel kept paste).1.length) (shift fuel kept paste).1.length pv' pm' pf' (shift fuel kept paste).2)):=by
  intro fuel
  have fin: ∀ (fuel:Nat) (kept paste:Bytes) (off pv pm pf:Nat),X.drop off=kept→off≤X.length→shift fuel kept paste=(kept,paste)→(kept≠ []→kept.isPrefixOf pasteEnd=true)→ ∃ pv' pm' pf',
      Loops Tryz.prog cnd 5 80 (loopAt Tryz.prog 129 0) pasF (AHeap.rows 5 (mem3 f kv km kf X U O ov dty off kept.length pv pm pf paste)) (.exit 0) pasF
        (AHeap.rows 40 (mem3 f kv km kf X U O ov dty (X.length- (shift fuel kept paste).1.length) (shift fuel kept paste).1.length pv' pm' pf' (shift fuel kept paste).2)):=by
    intro fuel kept paste off pv pm pf hX ho hs hp
    have hl:=klen hX ho
    obtain⟨e,F1,h1,hr,rfl,rfl,e0,e1,e2,e3,e4,ej⟩:=pas3_vp f off kv km kf kept.length pv pm pf paste.length (bytesA X) (bytesA paste) ov U O dty (fun e F1 h1=>e= .exit 0∧F1=pasF∧h1.get 0=some (pasD f kv off kept.length (.slice (some ⟨3,pv,0,0,1⟩) paste.length paste.length) ov dty)∧h1.get 1=some U∧h1.get 2=some (gRowB (bytesA X) 1 kv km kf byteTy)∧h1.get 3=h1.get 3∧h1.get 4=some O∧h1.get 3=some (gRowB (bytesA paste) 1 pv pm pf byteTy)) (by
      delta zv68_0 zv67_0 zv68_1 zv29_2
      rw [kcut hX,strOf_bytesA]
      refine⟨fun h=>⟨rfl,by rw [len_bytesA];omega,⟨kept,rfl⟩,fun _=>⟨rfl,rfl,rfl,rfl,rfl,rfl,rfl,rfl⟩,fun h2=> ?_⟩,fun _=>⟨rfl,rfl,rfl,rfl,rfl,rfl,rfl,rfl⟩⟩
      have hne:kept≠ []:=by rintro rfl;simp at h
      have:=hp hne
      rw [show Array.toList #[(27:UInt8),91,50,48,49,126]=pasteEnd from rfl,this]at h2
      cases h2)
    refine⟨pv,pm,pf,?_⟩
    rw [hs]
    simp only
    rw [show X.length-kept.length=off by omega]
    exact(Loops.last (by simp) hr).post (pas_ent3 f kv km kf X U P O ov dty (by decide) (by decide) bU bP bO co e0 e1 e2 e3 e4 ej)
  induction fuel with
  | zero =>
    intro kept paste off pv pm pf hf hX ho hp
    have hk:kept= []:=List.eq_nil_of_length_eq_zero (by omega)
    subst hk
    exact fin 0 [] paste off pv pm pf hX ho (shift_nil _ _) (fun h=>absurd rfl h)
  | succ fuel ih =>
    intro kept paste off pv pm pf hf hX ho hp
    cases kept with
    | nil=>exact fin (fuel+1) [] paste off pv pm pf hX ho (shift_nil _ _) (fun h=>absurd rfl h)
    | cons b r =>
      cases hq:(b::r).isPrefixOf pasteEnd with
      | true=>exact fin (fuel+1) (b::r) paste off pv pm pf hX ho (by simp only [shift,hq,if_true]) (fun _=>hq)
      | false =>
        have hl:=klen hX ho
        simp only [List.length_cons]at hl hf
        have hsh:shift (fuel+1) (b::r) paste=shift fuel r (if paste.length<65536 then paste++ [b]else paste):=by simp only [shift,hq];rfl
        rw [hsh]
        obtain⟨e,F1,h1,hr,rfl,rfl,pv1,pm1,pf1,e0,e1,e2,e3,e4,ej⟩:=pas3_vp f off kv km kf (b::r).length pv pm pf paste.length (bytesA X) (bytesA paste) ov U O dty (fun e F1 h1=>e= .normal∧F1=pasF∧ ∃ pv1 pm1 pf1,h1.get 0=some (pasD f kv (off+1) r.length (.slice (some ⟨3,pv1,0,0,1⟩) (if paste.length<65536 then paste++ [b]else paste).length (if paste.length<65536 then paste++ [b]else paste).length) ov dty)∧h1.get 1=some U∧h1.get 2=some (gRowB (bytesA X) 1 kv km kf byteTy)∧h1.get 3=h1.get 3∧h1.get 4=some O∧h1.get 3=some (gRowB (bytesA (if paste.length<65536 then paste++ [b]else paste)) 1 pv1 pm1 pf1 byteTy)) (by
          delta zv68_0 zv67_0 zv68_1 zv29_2
          rw [kcut hX,strOf_bytesA,show off+0=off from rfl,khint hX,khead hX]
          have hlb:=len_bytesA paste
          refine⟨fun h=>⟨rfl,by rw [len_bytesA];simp only [List.length_cons];omega,⟨b::r,rfl⟩,fun h2=> ?_,fun _=>⟨fun hlt=>⟨⟨by omega,h⟩,rfl,rfl,⟨rfl,by omega,by omega,by omega,by omega⟩,⟨by omega,by omega,Nat.le_refl _⟩,rfl,rfl,?_⟩,fun hge=>⟨⟨by omega,by omega,Nat.le_refl _⟩,rfl,rfl,?_⟩⟩⟩,fun h=>by simp only [List.length_cons]at h;omega⟩
          · rw [show Array.toList #[(27:UInt8),91,50,48,49,126]=pasteEnd from rfl,hq]at h2
            cases h2
          · rw [if_pos (show paste.length<65536 by omega),← bytesA_snoc1,List.length_append]
            exact⟨_,_,_,rfl,rfl,rfl,rfl,rfl,rfl⟩
          · rw [if_neg (show ¬ paste.length<65536 by omega)]
            exact⟨_,_,_,rfl,rfl,rfl,rfl,rfl,rfl⟩)
        have hp2:(if paste.length<65536 then paste++ [b]else paste).length≤65536:=by
          split
          · rw [List.length_append];simp only [List.length_cons,List.length_nil];omega
          · exact hp
        obtain⟨pv',pm',pf',hL⟩:=ih r _ (off+1) pv1 pm1 pf1 (by omega) (kdrop hX) (by omega) hp2
        exact⟨pv',pm',pf',Loops.step (hr.post (pas_ent3 f kv km kf X U P O ov dty (by decide) (by decide) bU bP bO co e0 e1 e2 e3 e4 ej)) hL⟩
abbrev mem30(off n pv pm pf:Nat)(paste:Bytes):List (Nat×ABlk):= [(0,pasD f kv off n (.slice (some ⟨30,pv,0,0,1⟩) paste.length paste.length) ov dty),(1,U),(2,gRowB (bytesA X) 1 kv km kf byteTy),(3,P),(4,O),(30,gRowB (bytesA paste) 1 pv pm pf byteTy)]
theorem pas_ent30 {K:Nat}(hK:40≤K){h:AHeap}{j off n pv pm pf:Nat}{paste:Bytes}(hj:5≤j)(bU:BareB U)(bP:BareB P)(bO:BareB O)(co:Clo Five ov)
    (e0:h.get 0=some (pasD f kv off n (.slice (some ⟨j,pv,0,0,1⟩) paste.length paste.length) ov dty)) (e1:h.get 1=some U) (e2:h.get 2=some (gRowB (bytesA X) 1 kv km kf byteTy)) (e3:h.get 3=some P) (e4:h.get 4=some O) (ej:h.get j=some (gRowB (bytesA paste) 1 pv pm pf byteTy)) :
    Ent 5 80 pasF h pasF (AHeap.rows K (mem30 f kv km kf X U P O ov dty off n pv pm pf paste)):=by
  have hjb:Nat.ble 5 j=true∨j=3:=by first | exact .inr hj | exact .inl (Nat.ble_eq.mpr hj)
  have hr: ∀ i,Five i→(fun k=>if k=30 then j else k) i=i:=by
    intro i hi
    have:i=0∨i=1∨i=2∨i=3∨i=4:=hi
    simp only
    split<;>omega
  refine Ent.move (K:=K) (l:=mem30 f kv km kf X U P O ov dty off n pv pm pf paste) (fun k=>if k=30 then j else k) ?_ ?_ ?_ ?_ ?_ ?_ rfl ?_ ?_
  · have hd:=pasD_ren (r:=fun k=>if k=30 then j else k) (f:=f) (kv:=kv) (off:=off) (n:=n) (pv:= .slice (some ⟨30,pv,0,0,1⟩) paste.length paste.length) (dty:=dty) (by simp) (by simp) (by simp) (AVal.ren_on hr co)
    simp only [List.map_cons,List.map_nil,hd,bU.ren,bP.ren,bO.ren,(gRowB_bare (bytesA_bare X) 1 kv km kf byteTy).ren,(gRowB_bare (bytesA_bare paste) 1 pv pm pf byteTy).ren]
    simp [e0,e1,e2,e3,e4,ej,AVal.ren,AAddr.ren]
  · simp [List.all_cons];omega
  · simp;omega
  · rfl
  · simp [Nat.blt,hj]
  · simp [AVal.ren,AAddr.ren]
  · exact All.cons (by show(0:Nat)∈_;simp) All.nil
  · exact All.cons (pasD_clo (by show(0:Nat)∈_;simp) (by show(1:Nat)∈_;simp) (by show(2:Nat)∈_;simp) (by show(30:Nat)∈_;simp) (clo_five co (by intro i hi;have:i=0∨i=1∨i=2∨i=3∨i=4:=hi;simp;omega))) (All.cons (fun e he=>(bU e he).clo _) (All.cons (fun e he=>(bytesA_bare X e he).clo _) (All.cons (fun e he=>(bP e he).clo _) (All.cons (fun e he=>(bO e he).clo _) (All.cons (fun e he=>(bytesA_bare paste e he).clo _) All.nil)))))
theorem pas30_loop (bU:BareB U) (bP:BareB P) (bO:BareB O) (co:Clo Five ov): ∀ (fuel:Nat) (kept paste:Bytes) (off pv pm pf:Nat),kept.length≤fuel→X.drop off=kept→off≤X.length→paste.length≤65536→ ∃ pv' pm' pf',
    Loops Tryz.prog cnd 5 80 (loopAt Tryz.prog 129 0) pasF (AHeap.rows 40 (mem30 f kv km kf X U P O ov dty off kept.length pv pm pf paste)) (.exit 0) pasF
      (AHeap.rows 40 (mem30 f kv km kf X U P O ov dty (X.length- (shift fuel kept paste).1.length) (shift fuel kept paste).1.length pv' pm' pf' (shift fuel kept paste).2)):=by
  intro fuel
  have fin: ∀ (fuel:Nat) (kept paste:Bytes) (off pv pm pf:Nat),X.drop off=kept→off≤X.length→shift fuel kept paste=(kept,paste)→(kept≠ []→kept.isPrefixOf pasteEnd=true)→ ∃ pv' pm' pf',
      Loops Tryz.prog cnd 5 80 (loopAt Tryz.prog 129 0) pasF (AHeap.rows 40 (mem30 f kv km kf X U P O ov dty off kept.length pv pm pf paste)) (.exit 0) pasF
        (AHeap.rows 40 (mem30 f kv km kf X U P O ov dty (X.length- (shift fuel kept paste).1.length) (shift fuel kept paste).1.length pv' pm' pf' (shift fuel kept paste).2)):=by
    intro fuel kept paste off pv pm pf hX ho hs hp
    have hl:=klen hX ho
    obtain⟨e,F1,h1,hr,rfl,rfl,e0,e1,e2,e3,e4,ej⟩:=pas30_vp f off kv km kf kept.length pv pm pf paste.length (bytesA X) (bytesA paste) ov U P O dty (fun e F1 h1=>e= .exit 0∧F1=pasF∧h1.get 0=some (pasD f kv off kept.length (.slice (some ⟨30,pv,0,0,1⟩) paste.length paste.length) ov dty)∧h1.get 1=some U∧h1.get 2=some (gRowB (bytesA X) 1 kv km kf byteTy)∧h1.get 3=some P∧h1.get 4=some O∧h1.get 30=some (gRowB (bytesA paste) 1 pv pm pf byteTy)) (by
      delta zv68_0 zv67_0 zv69_0 zv29_2
      rw [kcut hX,strOf_bytesA]
      refine⟨fun h=>⟨rfl,by rw [len_bytesA];omega,⟨kept,rfl⟩,fun _=>⟨rfl,rfl,rfl,rfl,rfl,rfl,rfl,rfl⟩,fun h2=> ?_⟩,fun _=>⟨rfl,rfl,rfl,rfl,rfl,rfl,rfl,rfl⟩⟩
      have hne:kept≠ []:=by rintro rfl;simp at h
      have:=hp hne
      rw [show Array.toList #[(27:UInt8),91,50,48,49,126]=pasteEnd from rfl,this]at h2
      cases h2)
    refine⟨pv,pm,pf,?_⟩
    rw [hs]
    simp only
    rw [show X.length-kept.length=off by omega]
    exact(Loops.last (by simp) hr).post (pas_ent30 f kv km kf X U P O ov dty (by decide) (by decide) bU bP bO co e0 e1 e2 e3 e4 ej)
  induction fuel with
  | zero =>
    intro kept paste off pv pm pf hf hX ho hp
    have hk:kept= []:=List.eq_nil_of_length_eq_zero (by omega)
    subst hk
    exact fin 0 [] paste off pv pm pf hX ho (shift_nil _ _) (fun h=>absurd rfl h)
  | succ fuel ih =>
    intro kept paste off pv pm pf hf hX ho hp
    cases kept with
    | nil=>exact fin (fuel+1) [] paste off pv pm pf hX ho (shift_nil _ _) (fun h=>absurd rfl h)
    | cons b r =>
      cases hq:(b::r).isPrefixOf pasteEnd with
      | true=>exact fin (fuel+1) (b::r) paste off pv pm pf hX ho (by simp only [shift,hq,if_true]) (fun _=>hq)
      | false =>
        have hl:=klen hX ho
        simp only [List.length_cons]at hl hf
        have hsh:shift (fuel+1) (b::r) paste=shift fuel r (if paste.length<65536 then paste++ [b]else paste):=by simp only [shift,hq];rfl
        rw [hsh]
        obtain⟨e,F1,h1,hr,rfl,rfl,pv1,pm1,pf1,e0,e1,e2,e3,e4,ej⟩:=pas30_vp f off kv km kf (b::r).length pv pm pf paste.length (bytesA X) (bytesA paste) ov U P O dty (fun e F1 h1=>e= .normal∧F1=pasF∧ ∃ pv1 pm1 pf1,h1.get 0=some (pasD f kv (off+1) r.length (.slice (some ⟨30,pv1,0,0,1⟩) (if paste.length<65536 then paste++ [b]else paste).length (if paste.length<65536 then paste++ [b]else paste).length) ov dty)∧h1.get 1=some U∧h1.get 2=some (gRowB (bytesA X) 1 kv km kf byteTy)∧h1.get 3=some P∧h1.get 4=some O∧h1.get 30=some (gRowB (bytesA (if paste.length<65536 then paste++ [b]else paste)) 1 pv1 pm1 pf1 byteTy)) (by
          delta zv68_0 zv67_0 zv69_0 zv29_2
          rw [kcut hX,strOf_bytesA,show off+0=off from rfl,khint hX,khead hX]
          have hlb:=len_bytesA paste
          refine⟨fun h=>⟨rfl,by rw [len_bytesA];simp only [List.length_cons];omega,⟨b::r,rfl⟩,fun h2=> ?_,fun _=>⟨fun hlt=>⟨⟨by omega,h⟩,rfl,rfl,⟨rfl,by omega,by omega,by omega,by omega⟩,⟨by omega,by omega,Nat.le_refl _⟩,rfl,rfl,?_⟩,fun hge=>⟨⟨by omega,by omega,Nat.le_refl _⟩,rfl,rfl,?_⟩⟩⟩,fun h=>by simp only [List.length_cons]at h;omega⟩
          · rw [show Array.toList #[(27:UInt8),91,50,48,49,126]=pasteEnd from rfl,hq]at h2
            cases h2
          · rw [if_pos (show paste.length<65536 by omega),← bytesA_snoc1,List.length_append]
            exact⟨_,_,_,rfl,rfl,rfl,rfl,rfl,rfl⟩
          · rw [if_neg (show ¬ paste.length<65536 by omega)]
            exact⟨_,_,_,rfl,rfl,rfl,rfl,rfl,rfl⟩)
        have hp2:(if paste.length<65536 then paste++ [b]else paste).length≤65536:=by
          split
          · rw [List.length_append];simp only [List.length_cons,List.length_nil];omega
          · exact hp
        obtain⟨pv',pm',pf',hL⟩:=ih r _ (off+1) pv1 pm1 pf1 (by omega) (kdrop hX) (by omega) hp2
        exact⟨pv',pm',pf',Loops.step (hr.post (pas_ent30 f kv km kf X U P O ov dty (by decide) (by decide) bU bP bO co e0 e1 e2 e3 e4 ej)) hL⟩
end
end Go.Proofs.YtddnafghiejcoaaGreatDoor
namespace Go.Keys
theorem shift_suffix: ∀ (n:Nat) (k p:Bytes),∃ t,k=t++(shift n k p).1
  | 0,k,p=>⟨[],rfl⟩
  | n+1,[],p=>⟨[],rfl⟩
  | n +1,b::r,p=>by
    simp only [shift]
    split
    · exact⟨[],rfl⟩
    · obtain⟨t,ht⟩:=shift_suffix n r (if p.length<65536 then p++ [b]else p)
      exact⟨b::t,by rw [List.cons_append,← ht]⟩
theorem shift_ne: ∀ (n:Nat) (k p:Bytes),p≠ []→(shift n k p).2≠ []
  | 0,k,p,h=>h
  | n+1,[],p,h=>h
  | n +1,b::r,p,h=>by
    simp only [shift]
    split
    · exact h
    · refine shift_ne n r _ ?_
      split
      · simp
      · exact h
end Go.Keys
namespace Go.Proofs.YtddnafghiejcoaaGreatDoor
open Go.Lift Go.Keys
set_option maxRecDepth 1000000
section
variable(f kv km kf:Nat)(X:Bytes)(U P O:ABlk)(ov:AVal)(dty:Option (TypeId×Nat))
abbrev memN(off n:Nat):List (Nat×ABlk):= [(0,pasD f kv off n (.slice none 0 0) ov dty),(1,U),(2,gRowB (bytesA X) 1 kv km kf byteTy),(3,P),(4,O)]
theorem pas_entN {K:Nat}(hK:5≤K){h:AHeap}{off n:Nat}(bU:BareB U)(bP:BareB P)(bO:BareB O)(co:Clo Five ov)
    (e0:h.get 0=some (pasD f kv off n (.slice none 0 0) ov dty)) (e1:h.get 1=some U) (e2:h.get 2=some (gRowB (bytesA X) 1 kv km kf byteTy)) (e3:h.get 3=some P) (e4:h.get 4=some O) :
    Ent 5 80 pasF h pasF (AHeap.rows K (memN f kv km kf X U P O ov dty off n)):=by
  refine Ent.drop (K:=K) (l:=memN f kv km kf X U P O ov dty off n) (by simp [e0,e1,e2,e3,e4]) (by simp [List.all_cons];omega) rfl rfl (All.cons (by show(0:Nat)∈_;simp) All.nil) ?_
  exact All.cons (pasD_clo (by show(0:Nat)∈_;simp) (by show(1:Nat)∈_;simp) (by show(2:Nat)∈_;simp) trivial (clo_five co (by intro i hi;have:i=0∨i=1∨i=2∨i=3∨i=4:=hi;simp;omega))) (All.cons (fun e he=>(bU e he).clo _) (All.cons (fun e he=>(bytesA_bare X e he).clo _) (All.cons (fun e he=>(bP e he).clo _) (All.cons (fun e he=>(bO e he).clo _) All.nil))))
theorem pasN_loop (bU:BareB U) (bP:BareB P) (bO:BareB O) (co:Clo Five ov) (fuel:Nat) (kept:Bytes) (off:Nat) (hf:kept.length≤fuel) (hX:X.drop off=kept) (ho:off≤X.length) :
    ((shift fuel kept []).2= []→Loops Tryz.prog cnd 5 80 (loopAt Tryz.prog 129 0) pasF (AHeap.rows 5 (memN f kv km kf X U P O ov dty off kept.length)) (.exit 0) pasF (AHeap.rows 40 (memN f kv km kf X U P O ov dty (X.length- (shift fuel kept []).1.length) (shift fuel kept []).1.length))) ∧
    ((shift fuel kept []).2≠ []→ ∃ pv' pm' pf',Loops Tryz.prog cnd 5 80 (loopAt Tryz.prog 129 0) pasF (AHeap.rows 5 (memN f kv km kf X U P O ov dty off kept.length)) (.exit 0) pasF (AHeap.rows 40 (mem30 f kv km kf X U P O ov dty (X.length- (shift fuel kept []).1.length) (shift fuel kept []).1.length pv' pm' pf' (shift fuel kept []).2))):=by
  have hl:=klen hX ho
  have fin:shift fuel kept []=(kept,[])→(kept≠ []→kept.isPrefixOf pasteEnd=true)→Loops Tryz.prog cnd 5 80 (loopAt Tryz.prog 129 0) pasF (AHeap.rows 5 (memN f kv km kf X U P O ov dty off kept.length)) (.exit 0) pasF (AHeap.rows 40 (memN f kv km kf X U P O ov dty (X.length- (shift fuel kept []).1.length) (shift fuel kept []).1.length)):=by
    intro hs hp
    obtain⟨e,F1,h1,hr,rfl,rfl,e0,e1,e2,e3,e4⟩:=pasN_vp f off kv km kf kept.length (bytesA X) ov U P O dty (fun e F1 h1=>e= .exit 0∧F1=pasF∧h1.get 0=some (pasD f kv off kept.length (.slice none 0 0) ov dty)∧h1.get 1=some U∧h1.get 2=some (gRowB (bytesA X) 1 kv km kf byteTy)∧h1.get 3=some P∧h1.get 4=some O) (by
      delta zv67_0 zv67_1 zv29_2
      rw [kcut hX,strOf_bytesA]
      refine⟨fun h=>⟨rfl,by rw [len_bytesA];omega,⟨kept,rfl⟩,fun _=>⟨rfl,rfl,rfl,rfl,rfl,rfl,rfl⟩,fun h2=> ?_⟩,fun _=>⟨rfl,rfl,rfl,rfl,rfl,rfl,rfl⟩⟩
      have hne:kept≠ []:=by rintro rfl;simp at h
      have:=hp hne
      rw [show Array.toList #[(27:UInt8),91,50,48,49,126]=pasteEnd from rfl,this]at h2
      cases h2)
    rw [hs]
    simp only
    rw [show X.length-kept.length=off by omega]
    exact(Loops.last (by simp) hr).post (pas_entN f kv km kf X U P O ov dty (by decide) bU bP bO co e0 e1 e2 e3 e4)
  cases kept with
  | nil =>
    have hs:shift fuel [] []=([],[]):=shift_nil _ _
    exact⟨fun _=>fin hs (fun h=>absurd rfl h),fun h=>absurd (by rw [hs]) h⟩
  | cons b r =>
    cases fuel with
    | zero=>simp at hf
    | succ fuel =>
      cases hq:(b::r).isPrefixOf pasteEnd with
      | true =>
        have hs:shift (fuel+1) (b::r) []=(b::r,[]):=by simp only [shift,hq,if_true]
        exact⟨fun _=>fin hs (fun _=>hq),fun h=>absurd (by rw [hs]) h⟩
      | false =>
        have hsh:shift (fuel+1) (b::r) []=shift fuel r [b]:=by simp only [shift,hq];rfl
        rw [hsh]
        simp only [List.length_cons]at hl hf
        refine⟨fun h=>absurd h (shift_ne _ _ _ (by simp)),fun _=> ?_⟩
        obtain⟨e,F1,h1,hr,rfl,rfl,j,hj,e0,e1,e2,e3,e4,ej⟩:=pasN_vp f off kv km kf (b::r).length (bytesA X) ov U P O dty (fun e F1 h1=>e= .normal∧F1=pasF∧ ∃ j,5≤j∧h1.get 0=some (pasD f kv (off+1) r.length (.slice (some ⟨j,0,0,0,1⟩) ([b]:Bytes).length ([b]:Bytes).length) ov dty)∧h1.get 1=some U∧h1.get 2=some (gRowB (bytesA X) 1 kv km kf byteTy)∧h1.get 3=some P∧h1.get 4=some O∧h1.get j=some (gRowB (bytesA [b]) 1 0 0 0 byteTy)) (by
          delta zv67_0 zv67_1 zv29_2
          rw [kcut hX,strOf_bytesA,show off+0=off from rfl,khint hX,khead hX]
          refine⟨fun h=>⟨rfl,by rw [len_bytesA];simp only [List.length_cons];omega,⟨b::r,rfl⟩,fun h2=> ?_,fun _=>⟨⟨by omega,h⟩,rfl,rfl,⟨by omega,by omega,Nat.le_refl _⟩,rfl,rfl,_,(by decide),rfl,rfl,rfl,rfl,rfl,rfl⟩⟩,fun h=>by simp only [List.length_cons]at h;omega⟩
          rw [show Array.toList #[(27:UInt8),91,50,48,49,126]=pasteEnd from rfl,hq]at h2
          cases h2)
        obtain⟨pv',pm',pf',hL⟩:=pas30_loop f kv km kf X U P O ov dty bU bP bO co fuel r [b] (off+1) 0 0 0 (by omega) (kdrop hX) (by omega) (by simp)
        exact⟨pv',pm',pf',Loops.step (hr.post (pas_ent30 f kv km kf X U P O ov dty (by decide) hj bU bP bO co e0 e1 e2 e3 e4 ej)) hL⟩
end
theorem mkPG {h:AHeap} {f:Nat} {kv pv ov:AVal} {pas:Bool} {ty uty:Option (TypeId×Nat)} {hold kept paste:Bytes} {j0 j1 j2 j3:Int} {D U K P O:ABlk} {ks:KS} {es:List Ev} {I0:Ids} {k p:Nat} (h5:Nat.ble 5 h.next=true)
    (e0:h.get 0=some (dRowV 0 f 1 kv pv pas ov ty)) (e1:h.get 1=some (uRowH hold j0 j1 j2 j3 uty)) (e2:h.get 2=some K∨I0.k=2) (e3:h.get 3=some P∨I0.p=3) (e4:h.get 4=some O) (hk:KAt h 0 k kv ks kept) (hp:PAt h 0 p pv paste)
    (ho:OAt (AHeap.of [D,U,K,P,O]) 0 I0.o ov es) (hI:I0.u=1∧(I0.k=0∨I0.k=2)∧(I0.p=0∨I0.p=3)∧(I0.o=0∨I0.o=4)) (hkk:k=0∨(k=2∧I0.k=2)∨5≤k) (hpp:p=0∨(p=3∧I0.p=3)∨5≤p) (hne:k=0∨p=0∨k≠p) (hkn:Nat.blt k h.next=true) (hpn:Nat.blt p h.next=true) :
    GAt h 0 ⟨1,k,p,I0.o⟩ f pas ks kept hold paste es∧Fr (AHeap.of [D,U,K,P,O]) h 0 I0 ⟨1,k,p,I0.o⟩ where
  left:= {
    ex:=by
      refine⟨kv,pv,ov,ty,e0,hk,hp,ho.keep fun hn=> ?_⟩
      rcases hI.2.2.2 with h | h
      · exact absurd h hn
      · rw [h,e4,AHeap.of_get];rfl
    us:=⟨j0,j1,j2,j3,uty,e1⟩
    lt:=by
      have:=hI.2.2.2
      have h5:=Nat.le_of_ble_eq_true h5
      have hkn:=Nat.blt_eq.mp hkn
      have hpn:=Nat.blt_eq.mp hpn
      show 0<h.next∧1<h.next∧k<h.next∧p<h.next∧I0.o<h.next
      omega
    ne:=hne}
  right := {
    next:=Nat.le_of_ble_eq_true h5
    get :=fun j hj n1 n2 n3 n4 n5=>by
      have hj:j<5:=hj
      have:(j=2∧I0.k≠2)∨(j=3∧I0.p≠3)∨j=4:=by omega
      rw [AHeap.of_get]
      rcases this with ⟨rfl,hk⟩ | ⟨rfl,hk⟩ | rfl
      · rcases e2 with e | e
        · exact e
        · exact absurd e hk
      · rcases e3 with e | e
        · exact e
        · exact absurd e hk
      · exact e4
    ids:=fun x hx=>by
      show x=0∨x=I0.u∨x=I0.k∨x=I0.p∨x=I0.o∨5≤x
      have hx:x=1∨x=k∨x=p∨x=I0.o:=hx
      omega}
theorem pNil(h:AHeap):PAt h 0 0 (.slice none 0 0) []:= .inl ⟨rfl,rfl,rfl⟩
theorem pGrown {h:AHeap}{p ver m f:Nat}{l:Bytes}{v:AVal}(hp:p≠0)(hl:l≠ [])(hv:v= .slice (some ⟨p,ver,0,0,1⟩) l.length l.length)(e:h.get p=some (gRowB (bytesA l) 1 ver m f byteTy)):PAt h 0 p v l :=
  .inr ⟨hp,hl,ver,m,f,hv,by simpa using e⟩
theorem kGrownJ {h:AHeap}{k ver m f off n:Nat}{X junk l:Bytes}(hk:k≠0)(hX:X=junk++l)(ho:off=junk.length)(hn:n=l.length)(e:h.get k=some (gRowB (bytesA X) 1 ver m f byteTy)):KAt h 0 k (.slice (some ⟨k,ver,off,0,1⟩) n n) (.grown junk) l:=by
  subst hn;subst ho;subst hX
  exact⟨hk,ver,m,f,rfl,e⟩
theorem pasted_eq {kept paste:Bytes}{c:UInt8}{S:Bytes×Bytes}(hS:shift (kept.length+1) (kept++ [c]) paste=S):Keys.pasted ⟨.pasted,kept,[],paste⟩ c=if S.1.length=6 then(⟨.ground,[],[],[]⟩,[{kind:=4,text:=S.2}])else(⟨.pasted,S.1,[],S.2⟩,[]):=by
  unfold Keys.pasted
  simp only [hS]
  rfl
def pastedR(s:DS)(c:UInt8):Prop:=s.nx= .pasted∧s.hold= []∧s.kept.length<6∧s.paste.length≤65536
theorem oat_five {h:AHeap}{o:Nat}{ov:AVal}{es:List Ev}(h1:OAt h 0 o ov es)(ho:o=0∨o=4):Clo Five ov:=by
  rcases h1 with ⟨rfl,_⟩ | ⟨_,_,ver,m,f,rfl,_⟩
  · trivial
  · show Five o
    unfold Five;omega
abbrev PasQ(L:AHeap)(I0:Ids)(es:List Ev)(R:DS×List Ev)(v:AVal)(h':AHeap):Prop:=v= .tuple []∧ ∃ I',DAt h' 0 I' R.1 (es++R.2)∧Fr L h' 0 I0 I'
theorem rows5_40(a b c d e:ABlk):AHeap.rows 40 [(0,a),(1,b),(2,c),(3,d),(4,e)]=AHeap.rowsT 40 [(0,a),(1,b),(2,c),(3,d),(4,e)]:=by kernel_rfl
theorem rows6_40(a b c d e f:ABlk):AHeap.rows 40 [(0,a),(1,b),(2,c),(3,d),(4,e),(30,f)]=AHeap.rowsT 40 [(0,a),(1,b),(2,c),(3,d),(4,e),(30,f)]:=by kernel_rfl
theorem pas_no {h L:AHeap}{I0 I:Ids}{ks:KS}{k p:Bytes}{es:List Ev}{R:DS×List Ev}(gf:GAt h 0 I (fnOf .pasted) true ks k [] p es∧Fr L h 0 I0 I)(hsh:ShapeOk .pasted ks k)(hR:R=(⟨.pasted,k,[],p⟩,[])):PasQ L I0 es R (.tuple []) h:=by
  subst hR
  exact⟨rfl,I,by rw [List.append_nil];exact⟨ks,gf.1,hsh⟩,gf.2⟩
theorem pas_tell {h L:AHeap}{I0 I:Ids}{ks:KS}{k t:Bytes}{es:List Ev}{R:DS×List Ev}{ev:AVal}(h5:Nat.ble 5 h.next=true)(gf:GAt h 0 I (fnOf .pasted) false ks k [] [] es∧Fr L h 0 I0 I)(he:ev=evA {kind:=4,text:=t})(hes:es.length<2^30)(hR:R=(⟨.ground,[],[],[]⟩,[{kind:=4,text:=t}])) :
    TellPre h ⟨0,0,0,0,6⟩ ev∧ ∀ h',TellP h ⟨0,0,0,0,6⟩ ev h'→_root_.cond (Nat.ble 5 h'.next) (PasQ L I0 es R (.tuple []) h') False:=by
  subst hR
  exact tell_leaf1 rfl (Nat.le_of_ble_eq_true h5) gf he hes (by simp) fun h' I' g fr=>⟨rfl,I',dat_ground g,fr⟩
theorem pasted_does {H:AHeap} {d:Nat} {I:Ids} {s:DS} {es:List Ev} {c:UInt8} (g:DAt H d I s es) (hes:es.length<2^30-8) (hR:pastedR s c): ∃ H',FDoes Tryz.prog cnd 129 [.ptr (some ⟨d,0,0,0,6⟩),.int .u8 c.toNat] H (.tuple []) H' ∧
    ∃ I',DAt H' d I' (Keys.pasted s c).1 (es++(Keys.pasted s c).2)∧Fr H H' d I I':=by
  obtain⟨ks,g,hs⟩:=g
  refine g.liftB (Q:=fun h d I=>DAt h d I (Keys.pasted s c).1 (es++(Keys.pasted s c).2)) (fun a ha=>by rw [List.mem_singleton.1 ha];exact Bare.int _ _) (Bare.of rfl) (fun h' H' r d I hr hinj hlt q=>q.big hr hinj hlt) ?_
  intro kv pv ov ty uty j0 j1 j2 j3 K P O I0 gs hI bK bP bO
  obtain⟨hk,hp,ho⟩:=gs_parts gs
  obtain⟨nx,kept,hold,paste⟩:=s
  obtain⟨h1,h2,hkl,hpl⟩:=hR
  simp only at h1 h2 hkl hpl hs gs hk hp ho ⊢
  subst h1 h2
  simp only [show decide (Nx.pasted=Nx.pasted)=true from rfl]at hp ho hk gs ⊢
  have co:=oat_five ho hI.2.2.2
  have bU:BareB (uRowH [] j0 j1 j2 j3 uty):=uRow_bare _ _ _ _ _ _
  have hc0:=c.toNat_lt
  cases hS:shift (kept.length+1) (kept++ [c]) paste with
  | mk k1 p1 =>
  have hmod:=pasted_eq hS
  suffices hh: ∃ v h',FDoes Tryz.prog cnd 129 [.ptr (some ⟨0,0,0,0,6⟩),.int .u8 c.toNat] (AHeap.of [dRowV 0 (fnOf .pasted) 1 kv pv true ov ty,uRowH [] j0 j1 j2 j3 uty,K,P,O]) v h' ∧
      PasQ (AHeap.of [dRowV 0 (fnOf .pasted) 1 kv pv true ov ty,uRowH [] j0 j1 j2 j3 uty,K,P,O]) I0 es (Keys.pasted ⟨.pasted,kept,[],paste⟩ c) v h' by
    obtain⟨v,h',hd,rfl,q⟩:=hh
    exact⟨h',hd,q⟩
  cases ks with
  | one=>exact hs.elim
  | nil =>
    obtain⟨rfl,rfl,hk0⟩:=hk
    have e1:UInt8.ofNat (Int.toNat (c.toNat:Int))=c:=by simp
    have hsh:shift 1 [c] paste=if [c].isPrefixOf pasteEnd then([c],paste)else([],if paste.length<65536 then paste++ [c]else paste):=by simp only [shift]
    have hS:shift 1 [c] paste=(k1,p1):=hS
    rw [hsh]at hS
    have pre: [c].isPrefixOf pasteEnd=true→k1= [c]∧p1=paste:=fun hq=>by rw [hq]at hS;simpa [eq_comm]using hS
    have npre: [c].isPrefixOf pasteEnd=false→k1= []∧p1=if paste.length<65536 then paste++ [c]else paste:=fun hq=>by rw [hq]at hS;simpa [eq_comm]using hS
    rcases hp with ⟨rfl,rfl,hp0⟩ | ⟨hp0,hpne,hpg⟩
    · refine pas0N_vc (fnOf .pasted) c.toNat ov (uRowH [] j0 j1 j2 j3 uty) K P O ty _ ?_
      delta zv29_2
      rw [e1,show Array.toList #[(27:UInt8),91,50,48,49,126]=pasteEnd from rfl]
      refine⟨fun hq=> ?_,fun hq=> ?_⟩
      · obtain⟨rfl,rfl⟩:=pre hq
        exact pas_no (mkPG (k:=12) (p:=0) rfl rfl rfl (.inl rfl) (.inl rfl) rfl (kGrownJ (junk:= []) (X:= [c]) (by decide) rfl rfl rfl rfl) (pNil _) ho hI (.inr (.inr (by decide))) (.inl rfl) (.inr (.inl rfl)) rfl rfl) trivial hmod
      · obtain⟨rfl,rfl⟩:=npre hq
        exact pas_no (mkPG (k:=12) (p:=49) rfl rfl rfl (.inl rfl) (.inl rfl) rfl (kGrownJ (junk:= [c]) (X:= [c]) (by decide) rfl rfl rfl rfl) (pGrown (l:= [c]) (by decide) (by simp) rfl rfl) ho hI (.inr (.inr (by decide))) (.inr (.inr (by decide))) (.inr (.inr (by decide))) rfl rfl) trivial hmod
    · have hp3:I0.p=3:=by omega
      rw [hp3]at hp0 hpg
      obtain⟨pv1,pm,pf,rfl,hP⟩:=hpg
      rw [AHeap.of_get]at hP
      simp only [List.getElem?_cons_zero,List.getElem?_cons_succ,Option.some.injEq,List.nil_append,List.length_nil]at hP
      subst hP
      refine pas03_vc (fnOf .pasted) pv1 pm pf paste.length (bytesA paste) c.toNat ov (uRowH [] j0 j1 j2 j3 uty) K O ty _ ?_
      delta zv68_0 zv29_2
      rw [e1,show Array.toList #[(27:UInt8),91,50,48,49,126]=pasteEnd from rfl]
      have hlb:=len_bytesA paste
      refine⟨fun hq=> ?_,fun hq=>⟨fun hlt=>⟨⟨rfl,by omega,by omega,by omega,by omega⟩,?_⟩,fun hge=> ?_⟩⟩
      · obtain⟨rfl,rfl⟩:=pre hq
        exact pas_no (mkPG (k:=12) (p:=3) rfl rfl rfl (.inl rfl) (.inr hp3) rfl (kGrownJ (junk:= []) (X:= [c]) (by decide) rfl rfl rfl rfl) (pGrown (by decide) hpne rfl rfl) ho hI (.inr (.inr (by decide))) (.inr (.inl ⟨rfl,hp3⟩)) (.inr (.inr (by decide))) rfl rfl) trivial hmod
      · obtain⟨rfl,rfl⟩:=npre hq
        rw [if_pos (show paste.length<65536 by omega)]at hmod
        exact pas_no (mkPG (k:=12) (p:=3) rfl rfl rfl (.inl rfl) (.inr hp3) rfl (kGrownJ (junk:= [c]) (X:= [c]) (by decide) rfl rfl rfl rfl) (pGrown (l:=paste++ [c]) (by decide) (by simp) (by rw [List.length_append];rfl) (by rw [← bytesA_snoc1];rfl)) ho hI (.inr (.inr (by decide))) (.inr (.inl ⟨rfl,hp3⟩)) (.inr (.inr (by decide))) rfl rfl) trivial hmod
      · obtain⟨rfl,rfl⟩:=npre hq
        rw [if_neg (show ¬ paste.length<65536 by omega)]at hmod
        exact pas_no (mkPG (k:=12) (p:=3) rfl rfl rfl (.inl rfl) (.inr hp3) rfl (kGrownJ (junk:= [c]) (X:= [c]) (by decide) rfl rfl rfl rfl) (pGrown (by decide) hpne rfl rfl) ho hI (.inr (.inr (by decide))) (.inr (.inl ⟨rfl,hp3⟩)) (.inr (.inr (by decide))) rfl rfl) trivial hmod
  | grown junk =>
    obtain⟨hk0,ver,m,fl,rfl,hK⟩:=hk
    have hk2:I0.k=2:=by omega
    rw [hk2,AHeap.of_get]at hK
    simp only [List.getElem?_cons_zero,List.getElem?_cons_succ,Option.some.injEq]at hK
    subst hK
    rw [hk2]at hp ho ⊢
    have eX:bytesA (junk++kept)++ [AVal.int .u8 (c.toNat:Int)]=bytesA (junk++(kept++ [c])):=by rw [bytesA_snoc1,List.append_assoc]
    generalize hXd:junk++(kept++ [c])=X at eX
    have hX:X.drop junk.length=kept++ [c]:=by rw [← hXd];simp
    have hXl:X.length=junk.length+kept.length+1:=by rw [← hXd];simp;omega
    have hkc:(kept++ [c]).length=kept.length+1:=by simp
    have hjl:(bytesA (junk++kept)).length=junk.length+kept.length:=by rw [len_bytesA,List.length_append]
    obtain⟨t,ht⟩:=shift_suffix (kept.length+1) (kept++ [c]) paste
    rw [hS]at ht
    simp only at ht
    have hXs:X=(junk++t)++k1:=by rw [← hXd,ht,List.append_assoc]
    have hoff:X.length-k1.length=(junk++t).length:=by rw [hXs];simp only [List.length_append];omega
    have apre:ver=ver∧junk.length+kept.length=(bytesA (junk++kept)).length∧kept.length<kept.length+1∧(kept.length+1+(kept.length+1) / 4+512)*1≤281474976710656∧kept.length+1<4611686018427387904:=⟨rfl,by omega,by omega,by omega,by omega⟩
    have m6:(k1.length:Int)=6→Keys.pasted ⟨.pasted,kept,[],paste⟩ c=(⟨.ground,[],[],[]⟩,[{kind:=4,text:=p1}]):=fun h=>by rw [hmod,if_pos (show k1.length=6 by omega)]
    have m7: ¬ (k1.length:Int)=6→Keys.pasted ⟨.pasted,kept,[],paste⟩ c=(⟨.pasted,k1,[],p1⟩,[]):=fun h=>by rw [hmod,if_neg (show ¬ k1.length=6 by omega)]
    rcases hp with ⟨rfl,rfl,hp0⟩ | ⟨hp0,hpne,hpg⟩
    ·
      obtain⟨l1,l2⟩:=pasN_loop (fnOf .pasted) (ver+1) m (if m=ver then(bytesA (junk++kept)).length else min fl (bytesA (junk++kept)).length) X (uRowH [] j0 j1 j2 j3 uty) P O ov ty bU bP bO co (kept.length+1) (kept++ [c]) junk.length (by omega) hX (by omega)
      rw [hS]at l1 l2
      simp only at l1 l2
      have ent: ∀ h:AHeap,h.get 0=some (pasD (fnOf .pasted) (ver+1) junk.length (kept++ [c]).length (.slice none 0 0) ov ty)→h.get 1=some (uRowH [] j0 j1 j2 j3 uty)→h.get 2=some (gRowB (bytesA X) 1 (ver+1) m (if m=ver then(bytesA (junk++kept)).length else min fl (bytesA (junk++kept)).length) byteTy)→h.get 3=some P→h.get 4=some O→Ent 5 80 pasF h pasF (AHeap.rows 5 (memN (fnOf .pasted) (ver+1) m (if m=ver then(bytesA (junk++kept)).length else min fl (bytesA (junk++kept)).length) X (uRowH [] j0 j1 j2 j3 uty) P O ov ty junk.length (kept++ [c]).length)) :=
        fun h a0 a1 a2 a3 a4=>pas_entN _ _ _ _ _ _ _ _ _ _ (Nat.le_refl _) bU bP bO co a0 a1 a2 a3 a4
      by_cases hp1:p1= []
      · have hL:=l1 hp1
        rw [rows5_40]at hL
        subst hp1
        refine pasAN_vc (fnOf .pasted) junk.length ver m fl kept.length (ver+1) m (if m=ver then(bytesA (junk++kept)).length else min fl (bytesA (junk++kept)).length) (X.length-k1.length) k1.length (bytesA (junk++kept)) (bytesA X) c.toNat (.slice none 0 0) ov (uRowH [] j0 j1 j2 j3 uty) P P O ty _ ?_
        delta zv70_0 zv29_2 zv70_1 zv70_2
        refine⟨apre,?_,fun h=> ?_,fun h=> ?_⟩
        · rw [eX,← hkc]
          exact Runs.of_loops (hL.pre (ent _ rfl rfl rfl rfl rfl))
        · rw [m6 h]
          exact pas_tell rfl (mkPG (k:=2) (p:=0) rfl rfl rfl (.inr hk2) (.inl rfl) rfl (kGrownJ (by decide) hXs hoff rfl rfl) (pNil _) ho hI (.inr (.inl ⟨rfl,hk2⟩)) (.inl rfl) (.inr (.inl rfl)) rfl rfl) rfl (by omega) rfl
        · rw [m7 h]
          exact pas_no (mkPG (k:=2) (p:=0) rfl rfl rfl (.inr hk2) (.inl rfl) rfl (kGrownJ (by decide) hXs hoff rfl rfl) (pNil _) ho hI (.inr (.inl ⟨rfl,hk2⟩)) (.inl rfl) (.inr (.inl rfl)) rfl rfl) trivial rfl
      · obtain⟨pv',pm',pf',hL⟩:=l2 hp1
        rw [rows6_40]at hL
        have hlb:=len_bytesA p1
        have el:List.take p1.length (List.drop 0 (bytesA p1))=bytesA p1:=by rw [List.drop_zero,← hlb,List.take_length]
        have el2:List.take p1.length (bytesA p1)=bytesA p1:=by rw [← hlb,List.take_length]
        refine pasA30_vc (fnOf .pasted) junk.length ver m fl kept.length (ver+1) m (if m=ver then(bytesA (junk++kept)).length else min fl (bytesA (junk++kept)).length) (X.length-k1.length) k1.length pv' pm' pf' p1.length (bytesA (junk++kept)) (bytesA X) (bytesA p1) c.toNat (.slice none 0 0) ov (uRowH [] j0 j1 j2 j3 uty) P P O ty _ ?_
        delta zv71_0 zv70_0 zv29_2 zv71_1 zv70_2
        refine⟨apre,?_,fun h=>⟨rfl,by omega,⟨p1,el⟩,?_⟩,fun h=> ?_⟩
        · rw [eX,← hkc]
          exact Runs.of_loops (hL.pre (ent _ rfl rfl rfl rfl rfl))
        · rw [m6 h,el2,strOf_bytesA]
          exact pas_tell rfl (mkPG (k:=2) (p:=0) rfl rfl rfl (.inr hk2) (.inl rfl) rfl (kGrownJ (by decide) hXs hoff rfl rfl) (pNil _) ho hI (.inr (.inl ⟨rfl,hk2⟩)) (.inl rfl) (.inr (.inl rfl)) rfl rfl) rfl (by omega) rfl
        · rw [m7 h]
          exact pas_no (mkPG (k:=2) (p:=30) rfl rfl rfl (.inr hk2) (.inl rfl) rfl (kGrownJ (by decide) hXs hoff rfl rfl) (pGrown (by decide) hp1 rfl rfl) ho hI (.inr (.inl ⟨rfl,hk2⟩)) (.inr (.inr (by decide))) (.inr (.inr (by decide))) rfl rfl) trivial rfl
    · have hp3:I0.p=3:=by omega
      rw [hp3]at hp0 hpg
      obtain⟨pv1,pm,pf,rfl,hP⟩:=hpg
      rw [AHeap.of_get]at hP
      simp only [List.getElem?_cons_zero,List.getElem?_cons_succ,Option.some.injEq,List.nil_append,List.length_nil]at hP
      subst hP
      simp only [List.length_nil]at ho ⊢
      have hp1:p1≠ []:=by
        have:=shift_ne (kept.length+1) (kept++ [c]) paste hpne
        rw [hS]at this;exact this
      obtain⟨pv',pm',pf',hL⟩:=pas3_loop (fnOf .pasted) (ver+1) m (if m=ver then(bytesA (junk++kept)).length else min fl (bytesA (junk++kept)).length) X (uRowH [] j0 j1 j2 j3 uty) (gRowB (bytesA paste) 1 pv1 pm pf byteTy) O ov ty bU bP bO co (kept.length+1) (kept++ [c]) paste junk.length pv1 pm pf (by omega) hX (by omega) hpl
      rw [hS]at hL
      simp only at hL
      rw [rows5_40]at hL
      have hlb:=len_bytesA p1
      have el:List.take p1.length (List.drop 0 (bytesA p1))=bytesA p1:=by rw [List.drop_zero,← hlb,List.take_length]
      have el2:List.take p1.length (bytesA p1)=bytesA p1:=by rw [← hlb,List.take_length]
      refine pasA3_vc (fnOf .pasted) junk.length ver m fl kept.length (ver+1) m (if m=ver then(bytesA (junk++kept)).length else min fl (bytesA (junk++kept)).length) (X.length-k1.length) k1.length pv' pm' pf' p1.length (bytesA (junk++kept)) (bytesA X) (bytesA p1) c.toNat (.slice (some ⟨3,pv1,0,0,1⟩) paste.length paste.length) ov (uRowH [] j0 j1 j2 j3 uty) (gRowB (bytesA paste) 1 pv1 pm pf byteTy) O ty _ ?_
      delta zv71_0 zv70_0 zv29_2 zv71_1 zv70_2
      refine⟨apre,?_,fun h=>⟨rfl,by omega,⟨p1,el⟩,?_⟩,fun h=> ?_⟩
      · rw [eX,← hkc]
        exact Runs.of_loops (hL.pre (pas_ent3 _ _ _ _ _ _ (gRowB (bytesA paste) 1 pv1 pm pf byteTy) _ _ _ (Nat.le_refl _) rfl bU bP bO co rfl rfl rfl rfl rfl rfl))
      · rw [m6 h,el2,strOf_bytesA]
        exact pas_tell rfl (mkPG (k:=2) (p:=0) rfl rfl rfl (.inr hk2) (.inr hp3) rfl (kGrownJ (by decide) hXs hoff rfl rfl) (pNil _) ho hI (.inr (.inl ⟨rfl,hk2⟩)) (.inl rfl) (.inr (.inl rfl)) rfl rfl) rfl (by omega) rfl
      · rw [m7 h]
        exact pas_no (mkPG (k:=2) (p:=3) rfl rfl rfl (.inr hk2) (.inr hp3) rfl (kGrownJ (by decide) hXs hoff rfl rfl) (pGrown (by decide) hp1 rfl rfl) ho hI (.inr (.inl ⟨rfl,hk2⟩)) (.inr (.inl ⟨rfl,hp3⟩)) (.inr (.inr (by decide))) rfl rfl) trivial rfl
theorem pastedS_ok: ∀ args h a,stepS (2^30-8) pastedR Keys.pasted args h=some a→a.Ok Tryz.prog cnd 129 args h:=stepS_ok fun H d I s es c g hes hl hR=>pasted_does g hes hR
noncomputable def specsF:Specs:=((specs10.add 87 (stepS (2^30-8) sequenceR Keys.sequence)).add 129 (stepS (2^30-8) pastedR Keys.pasted))
theorem specsF_ok:SpecsOk Tryz.prog cnd specsF:=(specs10_ok.add sequenceS_ok).add pastedS_ok
abbrev zv75_0(H:AHeap):AHeap:=(AHeap.mk (H.next+4+6) (AHeap.blks (AHeap.mk (H.next+1+3) (AHeap.blks (AHeap.mk (H.next+1) (AHeap.blks H))))))
theorem fd_ground_vp(H:AHeap)(B d q bv bo n m j c:Nat)(K0:AExit→Facts→AHeap→Prop)(vc:bif Nat.ble B (H.next) && true then((j:Int)<(n:Int)→bif Nat.ble B (H.next+1) && true then(0≤(j:Int)∧(j:Int)<(n:Int))∧aload env.D 5 ⟨q,bv,bo+Int.toNat (j:Int),0,1⟩ (AHeap.mk (H.next+4) (H.2))=some (.int .u8 (c:Int))∧bif Nat.ble B (H.next+4) && true then aload env.D 66 ⟨d,0,0,0,6⟩ (AHeap.mk (H.next+10) (H.2))=some (.func (.func 30) [.ptr (some ⟨d,0,0,0,6⟩)] [])∧StepPre (2^30-4) groundR (zv75_0 H) ⟨d,0,0,0,6⟩ (c:Int)∧ ∀ (h7005:AHeap),StepP ground (zv75_0 H) ⟨d,0,0,0,6⟩ (c:Int) h7005→bif Nat.ble B (h7005.next) && true then(-9223372036854775808≤(j:Int)+1∧(j:Int)+1≤9223372036854775807)∧K0 .normal [(0,.ptr (some ⟨d,0,0,0,6⟩)),(13,.slice (some ⟨q,bv,bo,0,1⟩) n m),(14,.int .i64 (n:Int)),(15,.int .i64 ((j:Int)+1))] (AHeap.mk (h7005.next+2) (AHeap.blks h7005))else False else False else False)∧(¬(j:Int)<(n:Int)→K0 (.exit 0) [(0,.ptr (some ⟨d,0,0,0,6⟩)),(13,.slice (some ⟨q,bv,bo,0,1⟩) n m),(14,.int .i64 (n:Int)),(15,.int .i64 (j:Int))] (AHeap.mk (H.next+1) (AHeap.blks H)))else False) :
    ∃ e F1 h1,Runs Tryz.prog cnd B 34 (loopAt Tryz.prog 26 0) [(0,.ptr (some ⟨d,0,0,0,6⟩)),(13,.slice (some ⟨q,bv,bo,0,1⟩) n m),(14,.int .i64 n),(15,.int .i64 j)] H e F1 h1∧K0 e F1 h1 :=
  tpath_runs env_ok mixed specsF_ok (hs:= .br 5000 (hg 6000 (.hint (.val 6001 (.int .u8 (c:Int))) (.hint (.val 7003 (.func (.func 30) [.ptr (some ⟨d,0,0,0,6⟩)] [])) (hg 8000 .nil)))) .nil) (keep:= [0,13,14,15]) (by kernel_rfl) vc
theorem fd_escape_vp(H:AHeap)(B d q bv bo n m j c:Nat)(K0:AExit→Facts→AHeap→Prop)(vc:bif Nat.ble B (H.next) && true then((j:Int)<(n:Int)→bif Nat.ble B (H.next+1) && true then(0≤(j:Int)∧(j:Int)<(n:Int))∧aload env.D 5 ⟨q,bv,bo+Int.toNat (j:Int),0,1⟩ (AHeap.mk (H.next+4) (H.2))=some (.int .u8 (c:Int))∧bif Nat.ble B (H.next+4) && true then aload env.D 66 ⟨d,0,0,0,6⟩ (AHeap.mk (H.next+10) (H.2))=some (.func (.func 59) [.ptr (some ⟨d,0,0,0,6⟩)] [])∧StepPre (2^30-8) escapeR (zv75_0 H) ⟨d,0,0,0,6⟩ (c:Int)∧ ∀ (h7005:AHeap),StepP escape (zv75_0 H) ⟨d,0,0,0,6⟩ (c:Int) h7005→bif Nat.ble B (h7005.next) && true then(-9223372036854775808≤(j:Int)+1∧(j:Int)+1≤9223372036854775807)∧K0 .normal [(0,.ptr (some ⟨d,0,0,0,6⟩)),(13,.slice (some ⟨q,bv,bo,0,1⟩) n m),(14,.int .i64 (n:Int)),(15,.int .i64 ((j:Int)+1))] (AHeap.mk (h7005.next+2) (AHeap.blks h7005))else False else False else False)∧(¬(j:Int)<(n:Int)→K0 (.exit 0) [(0,.ptr (some ⟨d,0,0,0,6⟩)),(13,.slice (some ⟨q,bv,bo,0,1⟩) n m),(14,.int .i64 (n:Int)),(15,.int .i64 (j:Int))] (AHeap.mk (H.next+1) (AHeap.blks H)))else False) :
    ∃ e F1 h1,Runs Tryz.prog cnd B 34 (loopAt Tryz.prog 26 0) [(0,.ptr (some ⟨d,0,0,0,6⟩)),(13,.slice (some ⟨q,bv,bo,0,1⟩) n m),(14,.int .i64 n),(15,.int .i64 j)] H e F1 h1∧K0 e F1 h1 :=
  tpath_runs env_ok mixed specsF_ok (hs:= .br 5000 (hg 6000 (.hint (.val 6001 (.int .u8 (c:Int))) (.hint (.val 7003 (.func (.func 59) [.ptr (some ⟨d,0,0,0,6⟩)] [])) (hg 8000 .nil)))) .nil) (keep:= [0,13,14,15]) (by kernel_rfl) vc
theorem fd_char_vp(H:AHeap)(B d q bv bo n m j c:Nat)(K0:AExit→Facts→AHeap→Prop)(vc:bif Nat.ble B (H.next) && true then((j:Int)<(n:Int)→bif Nat.ble B (H.next+1) && true then(0≤(j:Int)∧(j:Int)<(n:Int))∧aload env.D 5 ⟨q,bv,bo+Int.toNat (j:Int),0,1⟩ (AHeap.mk (H.next+4) (H.2))=some (.int .u8 (c:Int))∧bif Nat.ble B (H.next+4) && true then aload env.D 66 ⟨d,0,0,0,6⟩ (AHeap.mk (H.next+10) (H.2))=some (.func (.func 90) [.ptr (some ⟨d,0,0,0,6⟩)] [])∧StepPre (2^30-8) charR (zv75_0 H) ⟨d,0,0,0,6⟩ (c:Int)∧ ∀ (h7005:AHeap),StepP char (zv75_0 H) ⟨d,0,0,0,6⟩ (c:Int) h7005→bif Nat.ble B (h7005.next) && true then(-9223372036854775808≤(j:Int)+1∧(j:Int)+1≤9223372036854775807)∧K0 .normal [(0,.ptr (some ⟨d,0,0,0,6⟩)),(13,.slice (some ⟨q,bv,bo,0,1⟩) n m),(14,.int .i64 (n:Int)),(15,.int .i64 ((j:Int)+1))] (AHeap.mk (h7005.next+2) (AHeap.blks h7005))else False else False else False)∧(¬(j:Int)<(n:Int)→K0 (.exit 0) [(0,.ptr (some ⟨d,0,0,0,6⟩)),(13,.slice (some ⟨q,bv,bo,0,1⟩) n m),(14,.int .i64 (n:Int)),(15,.int .i64 (j:Int))] (AHeap.mk (H.next+1) (AHeap.blks H)))else False) :
    ∃ e F1 h1,Runs Tryz.prog cnd B 34 (loopAt Tryz.prog 26 0) [(0,.ptr (some ⟨d,0,0,0,6⟩)),(13,.slice (some ⟨q,bv,bo,0,1⟩) n m),(14,.int .i64 n),(15,.int .i64 j)] H e F1 h1∧K0 e F1 h1 :=
  tpath_runs env_ok mixed specsF_ok (hs:= .br 5000 (hg 6000 (.hint (.val 6001 (.int .u8 (c:Int))) (.hint (.val 7003 (.func (.func 90) [.ptr (some ⟨d,0,0,0,6⟩)] [])) (hg 8000 .nil)))) .nil) (keep:= [0,13,14,15]) (by kernel_rfl) vc
theorem fd_sequence_vp(H:AHeap)(B d q bv bo n m j c:Nat)(K0:AExit→Facts→AHeap→Prop)(vc:bif Nat.ble B (H.next) && true then((j:Int)<(n:Int)→bif Nat.ble B (H.next+1) && true then(0≤(j:Int)∧(j:Int)<(n:Int))∧aload env.D 5 ⟨q,bv,bo+Int.toNat (j:Int),0,1⟩ (AHeap.mk (H.next+4) (H.2))=some (.int .u8 (c:Int))∧bif Nat.ble B (H.next+4) && true then aload env.D 66 ⟨d,0,0,0,6⟩ (AHeap.mk (H.next+10) (H.2))=some (.func (.func 87) [.ptr (some ⟨d,0,0,0,6⟩)] [])∧StepPre (2^30-8) sequenceR (zv75_0 H) ⟨d,0,0,0,6⟩ (c:Int)∧ ∀ (h7005:AHeap),StepP sequence (zv75_0 H) ⟨d,0,0,0,6⟩ (c:Int) h7005→bif Nat.ble B (h7005.next) && true then(-9223372036854775808≤(j:Int)+1∧(j:Int)+1≤9223372036854775807)∧K0 .normal [(0,.ptr (some ⟨d,0,0,0,6⟩)),(13,.slice (some ⟨q,bv,bo,0,1⟩) n m),(14,.int .i64 (n:Int)),(15,.int .i64 ((j:Int)+1))] (AHeap.mk (h7005.next+2) (AHeap.blks h7005))else False else False else False)∧(¬(j:Int)<(n:Int)→K0 (.exit 0) [(0,.ptr (some ⟨d,0,0,0,6⟩)),(13,.slice (some ⟨q,bv,bo,0,1⟩) n m),(14,.int .i64 (n:Int)),(15,.int .i64 (j:Int))] (AHeap.mk (H.next+1) (AHeap.blks H)))else False) :
    ∃ e F1 h1,Runs Tryz.prog cnd B 34 (loopAt Tryz.prog 26 0) [(0,.ptr (some ⟨d,0,0,0,6⟩)),(13,.slice (some ⟨q,bv,bo,0,1⟩) n m),(14,.int .i64 n),(15,.int .i64 j)] H e F1 h1∧K0 e F1 h1 :=
  tpath_runs env_ok mixed specsF_ok (hs:= .br 5000 (hg 6000 (.hint (.val 6001 (.int .u8 (c:Int))) (.hint (.val 7003 (.func (.func 87) [.ptr (some ⟨d,0,0,0,6⟩)] [])) (hg 8000 .nil)))) .nil) (keep:= [0,13,14,15]) (by kernel_rfl) vc
theorem fd_single_vp(H:AHeap)(B d q bv bo n m j c:Nat)(K0:AExit→Facts→AHeap→Prop)(vc:bif Nat.ble B (H.next) && true then((j:Int)<(n:Int)→bif Nat.ble B (H.next+1) && true then(0≤(j:Int)∧(j:Int)<(n:Int))∧aload env.D 5 ⟨q,bv,bo+Int.toNat (j:Int),0,1⟩ (AHeap.mk (H.next+4) (H.2))=some (.int .u8 (c:Int))∧bif Nat.ble B (H.next+4) && true then aload env.D 66 ⟨d,0,0,0,6⟩ (AHeap.mk (H.next+10) (H.2))=some (.func (.func 88) [.ptr (some ⟨d,0,0,0,6⟩)] [])∧StepPre (2^30-8) singleR (zv75_0 H) ⟨d,0,0,0,6⟩ (c:Int)∧ ∀ (h7005:AHeap),StepP single (zv75_0 H) ⟨d,0,0,0,6⟩ (c:Int) h7005→bif Nat.ble B (h7005.next) && true then(-9223372036854775808≤(j:Int)+1∧(j:Int)+1≤9223372036854775807)∧K0 .normal [(0,.ptr (some ⟨d,0,0,0,6⟩)),(13,.slice (some ⟨q,bv,bo,0,1⟩) n m),(14,.int .i64 (n:Int)),(15,.int .i64 ((j:Int)+1))] (AHeap.mk (h7005.next+2) (AHeap.blks h7005))else False else False else False)∧(¬(j:Int)<(n:Int)→K0 (.exit 0) [(0,.ptr (some ⟨d,0,0,0,6⟩)),(13,.slice (some ⟨q,bv,bo,0,1⟩) n m),(14,.int .i64 (n:Int)),(15,.int .i64 (j:Int))] (AHeap.mk (H.next+1) (AHeap.blks H)))else False) :
    ∃ e F1 h1,Runs Tryz.prog cnd B 34 (loopAt Tryz.prog 26 0) [(0,.ptr (some ⟨d,0,0,0,6⟩)),(13,.slice (some ⟨q,bv,bo,0,1⟩) n m),(14,.int .i64 n),(15,.int .i64 j)] H e F1 h1∧K0 e F1 h1 :=
  tpath_runs env_ok mixed specsF_ok (hs:= .br 5000 (hg 6000 (.hint (.val 6001 (.int .u8 (c:Int))) (.hint (.val 7003 (.func (.func 88) [.ptr (some ⟨d,0,0,0,6⟩)] [])) (hg 8000 .nil)))) .nil) (keep:= [0,13,14,15]) (by kernel_rfl) vc
theorem fd_pasted_vp(H:AHeap)(B d q bv bo n m j c:Nat)(K0:AExit→Facts→AHeap→Prop)(vc:bif Nat.ble B (H.next) && true then((j:Int)<(n:Int)→bif Nat.ble B (H.next+1) && true then(0≤(j:Int)∧(j:Int)<(n:Int))∧aload env.D 5 ⟨q,bv,bo+Int.toNat (j:Int),0,1⟩ (AHeap.mk (H.next+4) (H.2))=some (.int .u8 (c:Int))∧bif Nat.ble B (H.next+4) && true then aload env.D 66 ⟨d,0,0,0,6⟩ (AHeap.mk (H.next+10) (H.2))=some (.func (.func 129) [.ptr (some ⟨d,0,0,0,6⟩)] [])∧StepPre (2^30-8) pastedR (zv75_0 H) ⟨d,0,0,0,6⟩ (c:Int)∧ ∀ (h7005:AHeap),StepP pasted (zv75_0 H) ⟨d,0,0,0,6⟩ (c:Int) h7005→bif Nat.ble B (h7005.next) && true then(-9223372036854775808≤(j:Int)+1∧(j:Int)+1≤9223372036854775807)∧K0 .normal [(0,.ptr (some ⟨d,0,0,0,6⟩)),(13,.slice (some ⟨q,bv,bo,0,1⟩) n m),(14,.int .i64 (n:Int)),(15,.int .i64 ((j:Int)+1))] (AHeap.mk (h7005.next+2) (AHeap.blks h7005))else False else False else False)∧(¬(j:Int)<(n:Int)→K0 (.exit 0) [(0,.ptr (some ⟨d,0,0,0,6⟩)),(13,.slice (some ⟨q,bv,bo,0,1⟩) n m),(14,.int .i64 (n:Int)),(15,.int .i64 (j:Int))] (AHeap.mk (H.next+1) (AHeap.blks H)))else False) :
    ∃ e F1 h1,Runs Tryz.prog cnd B 34 (loopAt Tryz.prog 26 0) [(0,.ptr (some ⟨d,0,0,0,6⟩)),(13,.slice (some ⟨q,bv,bo,0,1⟩) n m),(14,.int .i64 n),(15,.int .i64 j)] H e F1 h1∧K0 e F1 h1 :=
  tpath_runs env_ok mixed specsF_ok (hs:= .br 5000 (hg 6000 (.hint (.val 6001 (.int .u8 (c:Int))) (.hint (.val 7003 (.func (.func 129) [.ptr (some ⟨d,0,0,0,6⟩)] [])) (hg 8000 .nil)))) .nil) (keep:= [0,13,14,15]) (by kernel_rfl) vc
theorem fd_end_vp(H:AHeap)(B d:Nat)(bs:AVal)(K0:AExit→Facts→AHeap→Prop)(vc:bif Nat.ble B (H.next) && true then K0 (.exit 0) [(0,.ptr (some ⟨d,0,0,0,6⟩)),(13,bs),(14,.int .i64 0),(15,.int .i64 0)] (AHeap.mk (H.next+1) (AHeap.blks H))else False) :
    ∃ e F1 h1,Runs Tryz.prog cnd B 34 (loopAt Tryz.prog 26 0) [(0,.ptr (some ⟨d,0,0,0,6⟩)),(13,bs),(14,.int .i64 0),(15,.int .i64 0)] H e F1 h1∧K0 e F1 h1 :=
  tpath_runs env_ok mixed specsF_ok (hs:= .nil) (keep:= [0,13,14,15]) (by kernel_rfl) vc
theorem fd_vc(H H1 H2 H3:AHeap)(d n m:Nat)(o:Option AAddr)(ov iv:AVal)(K0:AVal→AHeap→Prop)(vc:bif Nat.ble (H.next) (H.next) && true then bif Nat.ble (H.next) (H.next+1) && true then bif Nat.ble (H.next) (H.next+3) && true then aop env noCall (H.next+6) (getF [(12,.ptr (some ⟨d,0,0,5,6⟩)),(11,.ptr (some ⟨d,0,0,0,6⟩)),(10,.ptr (some ⟨d,0,0,0,6⟩)),(9,.bool false),(8,.ptr (some ⟨d,0,0,0,6⟩)),(4,.slice none 0 0),(0,.ptr (some ⟨d,0,0,0,6⟩)),(1,.slice o n m)]) (AHeap.mk (H.next+7) (H.2)) (Op.store 56 (Operand.tmp 12) (Operand.const (Value.slice none 0 0)))=some (AVal.tuple [],H1)∧bif Nat.ble (H.next) (H1.next) && true then Runs Tryz.prog cnd (H.next) 34 (Code.loop (loopAt Tryz.prog 26 0)) [(0,.ptr (some ⟨d,0,0,0,6⟩)),(13,.slice o n m),(14,.int .i64 (n:Int)),(15,.int .i64 0)] (AHeap.mk (H1.next+3) (AHeap.blks H1)) (.exit 0) [(0,.ptr (some ⟨d,0,0,0,6⟩)),(13,.slice o n m),(14,.int .i64 (n:Int)),(15,iv)] H2∧bif Nat.ble (H.next) (H2.next) && true then aload env.D 56 ⟨d,0,0,5,6⟩ (AHeap.mk (H2.next+5) (H2.2))=some ov∧bif Nat.ble (H.next) (H2.next+5) && true then aop env noCall (H2.next+8) (getF [(32,.ptr (some ⟨d,0,0,5,6⟩)),(31,.ptr (some ⟨d,0,0,0,6⟩)),(30,.ptr (some ⟨d,0,0,0,6⟩)),(7,ov),(29,ov),(28,.ptr (some ⟨d,0,0,5,6⟩)),(27,.ptr (some ⟨d,0,0,0,6⟩)),(26,.ptr (some ⟨d,0,0,0,6⟩)),(0,.ptr (some ⟨d,0,0,0,6⟩)),(13,.slice o n m),(14,.int .i64 (n:Int)),(15,iv)]) (AHeap.mk (H2.next+9) (H2.2)) (Op.store 56 (Operand.tmp 32) (Operand.const (Value.slice none 0 0)))=some (AVal.tuple [],H3)∧bif Nat.ble (H.next) (H3.next) && true then bif Nat.ble (H.next) (H3.next+2)then K0 ov (AHeap.mk (H3.next+2) (AHeap.blks H3))else False else False else False else False else False else False else False else False) :
    ∃ v h1,FDoes Tryz.prog cnd 26 [.ptr (some ⟨d,0,0,0,6⟩),.slice o n m] H v h1∧K0 v h1 :=
  tcall_does env_ok mixed specsF_ok (hs:= .hint (.act 3003 (.tuple []) fun x=>H1) (.hint (.keep [0,13,14,15]) (.hint (.loop [(0,.ptr (some ⟨d,0,0,0,6⟩)),(13,.slice o n m),(14,.int .i64 (n:Int)),(15,iv)] H2 (.exit 0)) (.hint (.val 9003 ov) (.hint (.act 10003 (.tuple []) fun x=>H3) .nil))))) (by kernel_rfl) vc
theorem load_fn {h:AHeap}{d f u:Nat}{kv pv ov:AVal}{pas:Bool}{ty:Option (TypeId×Nat)}(e:h.get d=some (dRowV d f u kv pv pas ov ty)):aload (AEnv.D env) 66 ⟨d,0,0,0,6⟩ h=some (.func (.func f) [.ptr (some ⟨d,0,0,0,6⟩)] []):=by
  have hD:(AEnv.D env 66).map (fun d=>d.kind.isAgg)=some false:=by kernel_rfl
  obtain⟨x,h1,h2⟩:=Option.map_eq_some_iff.1 hD
  unfold aload
  rw [h1,e]
  simp [ABlk.elem?,ABlk.lim,loadElem,h2,ABlk.made]
theorem load_out {h:AHeap}{d f u:Nat}{kv pv ov:AVal}{pas:Bool}{ty:Option (TypeId×Nat)}(e:h.get d=some (dRowV d f u kv pv pas ov ty)):aload (AEnv.D env) 56 ⟨d,0,0,5,6⟩ h=some ov:=by
  have hD:(AEnv.D env 56).map (fun d=>d.kind.isAgg)=some false:=by kernel_rfl
  obtain⟨x,h1,h2⟩:=Option.map_eq_some_iff.1 hD
  unfold aload
  rw [h1,e]
  simp [ABlk.elem?,ABlk.lim,loadElem,h2,ABlk.made]
theorem store_out {h:AHeap}{d f u:Nat}{kv pv ov:AVal}{pas:Bool}{ty:Option (TypeId×Nat)}(e:h.get d=some (dRowV d f u kv pv pas ov ty)):astore (AEnv.D env) 56 ⟨d,0,0,5,6⟩ (.slice none 0 0) h=some (h.set d (dRowV d f u kv pv pas (.slice none 0 0) ty)):=by
  have hD:(AEnv.D env 56).map (fun d=>(d.kind.isAgg,d.size))=some (false,1):=by kernel_rfl
  obtain⟨x,h1,h2⟩:=Option.map_eq_some_iff.1 hD
  simp only [Prod.mk.injEq]at h2
  unfold astore
  rw [h1,e]
  simp [AVal.fits,h2.1,h2.2,ABlk.made,storeElem,AVal.cells,putAll]
theorem load_byte {h:AHeap}{q v i:Nat}{b:ABlk}{c:Int}(e:h.get q=some b)(he:b.elem? v i=some (.int .u8 c)):aload (AEnv.D env) 5 ⟨q,v,i,0,1⟩ h=some (.int .u8 c):=by
  have hD:(AEnv.D env 5).map (fun d=>d.kind.isAgg)=some false:=by kernel_rfl
  obtain⟨x,h1,h2⟩:=Option.map_eq_some_iff.1 hD
  unfold aload
  rw [h1,e]
  simp only [he,loadElem,h2,Bool.false_eq_true,if_false,if_true]
structure BAt(H:AHeap)(q bv bo:Nat)(bs:Bytes):Prop where
  ex: ∃ b,H.get q=some b∧ ∀ (j:Nat) (h:j<bs.length),b.elem? bv (bo+j)=some (.int .u8 bs[j].toNat)
theorem BAt.keep {H H':AHeap}{q bv bo:Nat}{bs:Bytes}(h:BAt H q bv bo bs)(e:H'.get q=H.get q):BAt H' q bv bo bs:=by
  obtain⟨b,h1,h2⟩:=h.ex
  exact⟨b,by rw [e];exact h1,h2⟩
structure Off(q d:Nat)(I:Ids):Prop where
  d:q≠d
  u:q≠I.u
  k:q≠I.k
  p:q≠I.p
  o:q≠I.o
theorem Off.fr {h h':AHeap}{q d:Nat}{I I':Ids}(o:Off q d I)(fr:Fr h h' d I I')(hq:q<h.next):Off q d I' where
  d:=o.d
  u e:=by have:=fr.ids q (.inl e);have:=o.d;have:=o.u;have:=o.k;have:=o.p;have:=o.o;omega
  k e:=by have:=fr.ids q (.inr (.inl e));have:=o.d;have:=o.u;have:=o.k;have:=o.p;have:=o.o;omega
  p e:=by have:=fr.ids q (.inr (.inr (.inl e)));have:=o.d;have:=o.u;have:=o.k;have:=o.p;have:=o.o;omega
  o e:=by have:=fr.ids q (.inr (.inr (.inr e)));have:=o.d;have:=o.u;have:=o.k;have:=o.p;have:=o.o;omega
theorem Off.get {h h':AHeap}{q d:Nat}{I I':Ids}(o:Off q d I)(fr:Fr h h' d I I')(hq:q<h.next):h'.get q=h.get q:=fr.get q hq o.d o.u o.k o.p o.o
theorem nextD {h:AHeap}{d:Nat}{I:Ids}{s:DS}{es:List Ev}{k:Nat}(g:DAt h d I s es):DAt ⟨h.next+k,h.blks⟩ d I s es:=by
  obtain⟨ks,g,hs⟩:=g
  refine⟨ks,⟨g.ex,g.us,?_,g.ne⟩,hs⟩
  have:=g.lt
  show d<h.next+k∧I.u<h.next+k∧I.k<h.next+k∧I.p<h.next+k∧I.o<h.next+k
  omega
theorem nextFr2 {h h':AHeap}{d:Nat}{I I':Ids}{k:Nat}(fr:Fr h h' d I I'):Fr h ⟨h'.next+k,h'.blks⟩ d I I' where
  next:=by have:=fr.next;show h.next≤h'.next+k;omega
  get:=fr.get
  ids:=fr.ids
theorem nextFr1 {h h':AHeap}{d:Nat}{I I':Ids}{k:Nat}(fr:Fr ⟨h.next+k,h.blks⟩ h' d I I'):Fr h h' d I I' where
  next:=by have:h.next+k≤h'.next:=fr.next;omega
  get j hj:=fr.get j (by show j<h.next+k;omega)
  ids x hx:=by have:x=d∨x=I.u∨x=I.k∨x=I.p∨x=I.o∨h.next+k≤x:=fr.ids x hx;omega
abbrev fdF(d q bv bo n m j:Nat):Facts:= [(0,.ptr (some ⟨d,0,0,0,6⟩)),(13,.slice (some ⟨q,bv,bo,0,1⟩) n m),(14,.int .i64 (n:Nat)),(15,.int .i64 (j:Nat))]
theorem ble_and {a b:Nat}(h:a≤b):(Nat.ble a b && true)=true:=by rw [Nat.ble_eq.mpr h];rfl
theorem bif_ble {a b:Nat}{p:Prop}(h:a≤b)(k:p):_root_.cond (Nat.ble a b && true) p False:=by rw [ble_and h];exact k
theorem fd_shape {H:AHeap}{B d q bv bo n m j c:Nat}{N:Nat}{R:DS→UInt8→Prop}{F:DS→UInt8→DS×List Ev}{g:AVal}{K0:AExit→Facts→AHeap→Prop}(hB:B≤H.next)(hj:j<n)(hn:n<2^62)(h1:AHeap)(e1:h1=⟨H.next+10,H.blks⟩)
    (ld:aload (AEnv.D env) 5 ⟨q,bv,bo+Int.toNat (j:Int),0,1⟩ ⟨H.next+4,H.blks⟩=some (.int .u8 (c:Int))) (lf:aload (AEnv.D env) 66 ⟨d,0,0,0,6⟩ ⟨H.next+10,H.blks⟩=some g)
    (pre:StepPre N R ⟨H.next+10,H.blks⟩ ⟨d,0,0,0,6⟩ (c:Int)) (post: ∀ h,StepP F ⟨H.next+10,H.blks⟩ ⟨d,0,0,0,6⟩ (c:Int) h→K0 .normal (fdF d q bv bo n m (j+1)) ⟨h.next+2,h.blks⟩) (X:Prop) :
    _root_.cond (Nat.ble B H.next && true) (((j:Int)<(n:Int)→_root_.cond (Nat.ble B (H.next+1) && true) ((0≤(j:Int)∧(j:Int)<(n:Int))∧aload (AEnv.D env) 5 ⟨q,bv,bo+Int.toNat (j:Int),0,1⟩ ⟨H.next+4,H.blks⟩=some (.int .u8 (c:Int))∧_root_.cond (Nat.ble B (H.next+4) && true) (aload (AEnv.D env) 66 ⟨d,0,0,0,6⟩ ⟨H.next+10,H.blks⟩=some g∧StepPre N R h1 ⟨d,0,0,0,6⟩ (c:Int) ∧
      ∀ h,StepP F h1 ⟨d,0,0,0,6⟩ (c:Int) h→_root_.cond (Nat.ble B h.next && true) ((-9223372036854775808≤(j:Int)+1∧(j:Int)+1≤9223372036854775807)∧K0 .normal [(0,.ptr (some ⟨d,0,0,0,6⟩)),(13,.slice (some ⟨q,bv,bo,0,1⟩) n m),(14,.int .i64 (n:Nat)),(15,.int .i64 ((j:Int)+1))] ⟨h.next+2,h.blks⟩) False) False) False)∧(¬ (j:Int)<(n:Int)→X)) False:=by
  subst e1
  refine bif_ble hB ⟨fun _=>bif_ble (by omega) ⟨⟨by omega,by omega⟩,ld,bif_ble (by omega) ⟨lf,pre,fun h t=> ?_⟩⟩,fun h=>absurd (by omega) h⟩
  have hn2:H.next+10≤h.next:=t.next
  exact bif_ble (by omega) ⟨⟨by omega,by omega⟩,by rw [show((j:Int)+1)=((j+1:Nat):Int)by omega];exact post h t⟩
theorem fd_round {H:AHeap}{B d q bv bo m j:Nat}{I:Ids}{s:DS}{es:List Ev}{bs:Bytes}(hB:B≤H.next)(g:DAt H d I s es)(hG:Keys.Good s)(hes:es.length<2^30-8)(hb:BAt H q bv bo bs)(hj:j<bs.length)(hn:bs.length<2^62) :
    ∃ H' I',Runs Tryz.prog cnd B 34 (loopAt Tryz.prog 26 0) (fdF d q bv bo bs.length m j) H .normal (fdF d q bv bo bs.length m (j+1)) H'∧DAt H' d I' (Keys.step s bs[j]).1 (es++(Keys.step s bs[j]).2)∧Fr H H' d I I':=by
  have hc:=bs[j].toNat_lt
  obtain⟨b,hb1,hb2⟩:=hb.ex
  have ld:aload (AEnv.D env) 5 ⟨q,bv,bo+Int.toNat (j:Int),0,1⟩ ⟨H.next+4,H.blks⟩=some (.int .u8 (bs[j].toNat:Int)):=load_byte hb1 (by rw [show bo+Int.toNat (j:Int)=bo+j by simp];exact hb2 j hj)
  have hfn: ∃ kv pv ov ty,H.get d=some (dRowV d (fnOf s.nx) I.u kv pv (decide (s.nx= .pasted)) ov ty):=by
    obtain⟨ks,gg,_⟩:=g
    obtain⟨kv,pv,ov,ty,e,_⟩:=gg.ex
    exact⟨kv,pv,ov,ty,e⟩
  obtain⟨kv,pv,ov,ty,ed⟩:=hfn
  have lf:=load_fn (h:=⟨H.next+10,H.blks⟩) ed
  have hhold:s.hold.length≤4:=by
    obtain⟨nx,kept,hold,paste⟩:=s
    cases nx with
    | char=>have:=hG.2.2.2.1;simp only at this ⊢; omega
    | ground=>have:=hG.2.1;simp only at this;simp [this]
    | escape=>have:=hG.2.1;simp only at this;simp [this]
    | sequence=>have:=hG.1;simp only at this;simp [this]
    | single=>have:=hG.1;simp only at this;simp [this]
    | pasted=>have:=hG.1;simp only at this;simp [this]
  have key: ∀ {N:Nat} {R:DS→UInt8→Prop} {F:DS→UInt8→DS×List Ev},es.length<N→R s bs[j]→F s bs[j]=Keys.step s bs[j] →
      StepPre N R ⟨H.next+10,H.blks⟩ ⟨d,0,0,0,6⟩ (bs[j].toNat:Int)∧ ∀ h,StepP F ⟨H.next+10,H.blks⟩ ⟨d,0,0,0,6⟩ (bs[j].toNat:Int) h→AExit.normal= .normal∧fdF d q bv bo bs.length m (j+1)=fdF d q bv bo bs.length m (j+1)∧ ∃ I',DAt ⟨h.next+2,h.blks⟩ d I' (Keys.step s bs[j]).1 (es++(Keys.step s bs[j]).2)∧Fr H ⟨h.next+2,h.blks⟩ d I I':=by
    intro N R F hN hR hF
    refine⟨⟨rfl,⟨I,s,es,nextD g,hN,hhold,by rw [byteI_nat];exact hR⟩,by omega⟩,fun h t=>⟨rfl,rfl,?_⟩⟩
    obtain⟨I',g',fr'⟩:=t.all I s es (nextD g) hhold
    rw [byteI_nat,hF]at g'
    exact⟨I',nextD g',nextFr2 (nextFr1 fr')⟩
  have fin: ∀ {e:AExit} {F1:Facts} {h1:AHeap},Runs Tryz.prog cnd B 34 (loopAt Tryz.prog 26 0) (fdF d q bv bo bs.length m j) H e F1 h1→(e= .normal∧F1=fdF d q bv bo bs.length m (j+1)∧ ∃ I',DAt h1 d I' (Keys.step s bs[j]).1 (es++(Keys.step s bs[j]).2)∧Fr H h1 d I I') →
      ∃ H' I',Runs Tryz.prog cnd B 34 (loopAt Tryz.prog 26 0) (fdF d q bv bo bs.length m j) H .normal (fdF d q bv bo bs.length m (j+1)) H'∧DAt H' d I' (Keys.step s bs[j]).1 (es++(Keys.step s bs[j]).2)∧Fr H H' d I I':=by
    rintro e F1 h1 hr ⟨rfl,rfl,I',q⟩
    exact⟨h1,I',hr,q⟩
  let K0:AExit→Facts→AHeap→Prop:=fun e F1 h1=>e= .normal∧F1=fdF d q bv bo bs.length m (j+1)∧ ∃ I',DAt h1 d I' (Keys.step s bs[j]).1 (es++(Keys.step s bs[j]).2)∧Fr H h1 d I I'
  cases hx:s.nx with
  | ground =>
    rw [hx]at lf
    obtain⟨nx,kept,hold,paste⟩:=s
    simp only at hx;subst hx
    obtain⟨k1,k2⟩:=key (N:=2^30-4) (R:=groundR) (F:=Keys.ground) (by omega) ⟨hG.2.1,rfl⟩ rfl
    obtain⟨e,F1,h1,hr,hk⟩:=fd_ground_vp H B d q bv bo bs.length m j bs[j].toNat K0 (fd_shape hB hj hn _ rfl ld lf k1 k2 _)
    exact fin hr hk
  | escape =>
    rw [hx]at lf
    obtain⟨nx,kept,hold,paste⟩:=s
    simp only at hx;subst hx
    obtain⟨k1,k2⟩:=key (N:=2^30-8) (R:=escapeR) (F:=Keys.escape) (by omega) ⟨hG.2.1,rfl⟩ rfl
    obtain⟨e,F1,h1,hr,hk⟩:=fd_escape_vp H B d q bv bo bs.length m j bs[j].toNat K0 (fd_shape hB hj hn _ rfl ld lf k1 k2 _)
    exact fin hr hk
  | char =>
    rw [hx]at lf
    obtain⟨nx,kept,hold,paste⟩:=s
    simp only at hx;subst hx
    obtain⟨k1,k2⟩:=key (N:=2^30-8) (R:=charR) (F:=Keys.char) (by omega) ⟨rfl,hG.2.1,hG.2.2.1,hG.2.2.2.1,hG.2.2.2.2⟩ rfl
    obtain⟨e,F1,h1,hr,hk⟩:=fd_char_vp H B d q bv bo bs.length m j bs[j].toNat K0 (fd_shape hB hj hn _ rfl ld lf k1 k2 _)
    exact fin hr hk
  | sequence =>
    rw [hx]at lf
    obtain⟨nx,kept,hold,paste⟩:=s
    simp only at hx;subst hx
    obtain⟨k1,k2⟩:=key (N:=2^30-8) (R:=sequenceR) (F:=Keys.sequence) (by omega) ⟨rfl,hG.1,hG.2.2.1,hG.2.2.2⟩ rfl
    obtain⟨e,F1,h1,hr,hk⟩:=fd_sequence_vp H B d q bv bo bs.length m j bs[j].toNat K0 (fd_shape hB hj hn _ rfl ld lf k1 k2 _)
    exact fin hr hk
  | single =>
    rw [hx]at lf
    obtain⟨nx,kept,hold,paste⟩:=s
    simp only at hx;subst hx
    obtain⟨k1,k2⟩:=key (N:=2^30-8) (R:=singleR) (F:=Keys.single) (by omega) ⟨hG.1,rfl⟩ rfl
    obtain⟨e,F1,h1,hr,hk⟩:=fd_single_vp H B d q bv bo bs.length m j bs[j].toNat K0 (fd_shape hB hj hn _ rfl ld lf k1 k2 _)
    exact fin hr hk
  | pasted =>
    rw [hx]at lf
    obtain⟨nx,kept,hold,paste⟩:=s
    simp only at hx;subst hx
    obtain⟨k1,k2⟩:=key (N:=2^30-8) (R:=pastedR) (F:=Keys.pasted) (by omega) ⟨rfl,hG.1,hG.2.1,hG.2.2.2⟩ rfl
    obtain⟨e,F1,h1,hr,hk⟩:=fd_pasted_vp H B d q bv bo bs.length m j bs[j].toNat K0 (fd_shape hB hj hn _ rfl ld lf k1 k2 _)
    exact fin hr hk
theorem fd_loop {B d q bv bo m:Nat}{bs:Bytes}(hn:bs.length<2^28): ∀ (k j:Nat) (H:AHeap) (I:Ids) (s:DS) (es:List Ev),bs.length-j≤k→j≤bs.length→B≤H.next→DAt H d I s es→Keys.Good s→es.length+2* (bs.length-j)<2^30-8→BAt H q bv bo bs→q<H.next→Off q d I →
    ∃ H' I',Loops Tryz.prog cnd B 34 (loopAt Tryz.prog 26 0) (fdF d q bv bo bs.length m j) H (.exit 0) (fdF d q bv bo bs.length m bs.length) H'∧DAt H' d I' (feedAll s (bs.drop j)).1 (es++(feedAll s (bs.drop j)).2)∧Fr H H' d I I':=by
  intro k
  have fin: ∀ (H:AHeap) (I:Ids) (s:DS) (es:List Ev),B≤H.next→DAt H d I s es→ ∃ H' I',Loops Tryz.prog cnd B 34 (loopAt Tryz.prog 26 0) (fdF d q bv bo bs.length m bs.length) H (.exit 0) (fdF d q bv bo bs.length m bs.length) H'∧DAt H' d I' (feedAll s (bs.drop bs.length)).1 (es++(feedAll s (bs.drop bs.length)).2)∧Fr H H' d I I':=by
    intro H I s es hB g
    obtain⟨e,F1,h1,hr,rfl,rfl,rfl⟩:=fd_ground_vp H B d q bv bo bs.length m bs.length 0 (fun e F1 h1=>e= .exit 0∧F1=fdF d q bv bo bs.length m bs.length∧h1=⟨H.next+1,H.blks⟩) (bif_ble hB ⟨fun h=>by omega,fun _=>⟨rfl,rfl,rfl⟩⟩)
    refine⟨_,I,Loops.last (by simp) hr,?_,?_⟩
    · rw [List.drop_length]
      simp only [feedAll,List.append_nil]
      exact nextD g
    · exact⟨by show H.next≤H.next+1;omega,fun j _ _ _ _ _ _=>rfl,fun x hx=>by omega⟩
  induction k with
  | zero =>
    intro j H I s es hk hj hB g hG hes hb hq ho
    obtain rfl:j=bs.length:=by omega
    exact fin H I s es hB g
  | succ k ih =>
    intro j H I s es hk hj hB g hG hes hb hq ho
    by_cases hc:j<bs.length
    · obtain⟨H1,I1,hr,g1,fr1⟩:=fd_round (m:=m) hB g hG (by omega) hb hc (by omega)
      have h2:=few_step s bs[j]
      have hnx:=fr1.next
      obtain⟨H2,I2,hl,g2,fr2⟩:=ih (j+1) H1 I1 _ _ (by omega) (by omega) (by omega) g1 (good_step _ hG) (by rw [List.length_append];omega) (hb.keep (ho.get fr1 hq)) (by omega) (ho.fr fr1 hq)
      refine⟨H2,I2,Loops.step hr hl,?_,fr1.trans fr2⟩
      rw [List.drop_eq_getElem_cons hc]
      simp only [feedAll]
      rw [← List.append_assoc]
      exact g2
    · obtain rfl:j=bs.length:=by omega
      exact fin H I s es hB g
def EvL(H:AHeap)(v:AVal)(es:List Ev)(o:Nat):Prop :=
  (v= .slice none 0 0∧es= [])∨(es≠ []∧o<H.next∧ ∃ ver m f,v= .slice (some ⟨o,ver,0,0,6⟩) es.length es.length∧H.get o=some (gRowB (es.map evA) 6 ver m f evTy))
theorem DAt.clear {H:AHeap}{d:Nat}{I:Ids}{s:DS}{es:List Ev}(g:DAt H d I s es): ∃ f kv pv pas ov ty,H.get d=some (dRowV d f I.u kv pv pas ov ty)∧OAt H d I.o ov es∧I.u≠d ∧
    ∀ k,DAt ((⟨H.next+k,H.blks⟩:AHeap).set d (dRowV d f I.u kv pv pas (.slice none 0 0) ty)) d ⟨I.u,I.k,I.p,d⟩ s []∧Fr H ((⟨H.next+k,H.blks⟩:AHeap).set d (dRowV d f I.u kv pv pas (.slice none 0 0) ty)) d I ⟨I.u,I.k,I.p,d⟩:=by
  obtain⟨ks,g,hs⟩:=g
  obtain⟨kv,pv,ov,ty,e,hk,hp,ho⟩:=g.ex
  obtain⟨j0,j1,j2,j3,uty,hu⟩:=g.us
  have hud:I.u≠d:=by
    intro h;rw [h,e]at hu;simp [ABlk.made]at hu
  refine⟨_,kv,pv,_,ov,ty,e,ho,hud,fun k=>⟨⟨ks,⟨⟨kv,pv,.slice none 0 0,ty,?_,?_,?_,.inl ⟨rfl,rfl,rfl⟩⟩,⟨j0,j1,j2,j3,uty,?_⟩,?_,g.ne⟩,hs⟩,?_,?_,?_⟩⟩
  · exact AHeap.get_set_self _ _ _
  · exact hk.keep fun hn=>AHeap.get_set_ne _ _ (Ne.symm hn)
  · exact hp.keep fun hn=>AHeap.get_set_ne _ _ (Ne.symm hn)
  · show((⟨H.next+k,H.blks⟩:AHeap).set d _).get I.u=_
    rw [AHeap.get_set_ne _ _ (Ne.symm hud)];exact hu
  · have:=g.lt
    show d<H.next+k∧I.u<H.next+k∧I.k<H.next+k∧I.p<H.next+k∧d<H.next+k
    omega
  · show H.next≤H.next+k;omega
  · intro j hj n1 n2 n3 n4 n5
    exact AHeap.get_set_ne _ _ (Ne.symm n1)
  · intro x hx
    have hx:x=I.u∨x=I.k∨x=I.p∨x=d:=hx
    omega
def BArg(H:AHeap)(d:Nat)(I:Ids)(o:Option AAddr)(bs:Bytes):Prop:=(o=none∧bs= [])∨ ∃ q bv bo,o=some ⟨q,bv,bo,0,1⟩∧BAt H q bv bo bs∧q<H.next∧Off q d I
theorem aop_store {t:TypeId}{F:Facts}{H H1:AHeap}{a:AAddr}{nid k:Nat}(hf:getF F (.tmp k)= .ptr (some a))(hs:astore (AEnv.D env) t a (.slice none 0 0) H=some H1):aop env noCall nid (getF F) H (Op.store t (Operand.tmp k) (Operand.const (Value.slice none 0 0)))=some (.tuple [],H1):=by
  have hc:getF F (Operand.const (Value.slice none 0 0))= .slice none 0 0:=rfl
  simp only [aop,hf,hc,hs,Option.map_some]
theorem feed_does {H:AHeap} {d m:Nat} {I:Ids} {s:DS} {es:List Ev} {bs:Bytes} {o:Option AAddr} (g:DAt H d I s es) (hG:Keys.Good s) (hn:bs.length<2^28) (ha:BArg H d I o bs) :
    ∃ H' v I' o',FDoes Tryz.prog cnd 26 [.ptr (some ⟨d,0,0,0,6⟩),.slice o bs.length m] H v H'∧DAt H' d I' (feedAll s bs).1 []∧Fr H H' d I I'∧EvL H' v (feedAll s bs).2 o'∧((feedAll s bs).2≠ []→Off o' d I'∧(o'=I.u∨o'=I.k∨o'=I.p∨H.next≤o')):=by
  obtain⟨f,kv,pv,pas,ov,ty,ed,ho,hud,hcl⟩:=g.clear
  obtain⟨g1,fr1⟩:=hcl 7
  generalize hH1:((⟨H.next+7,H.blks⟩:AHeap).set d (dRowV d f I.u kv pv pas (.slice none 0 0) ty))=H1 at g1 fr1
  have hst:astore (AEnv.D env) 56 ⟨d,0,0,5,6⟩ (.slice none 0 0) ⟨H.next+7,H.blks⟩=some H1:=by rw [← hH1];exact store_out ed
  have hn1:H1.next=H.next+7:=by rw [← hH1];rfl
  have hg3:DAt ⟨H1.next+3,H1.blks⟩ d ⟨I.u,I.k,I.p,d⟩ s []:=nextD g1
  have hloop: ∃ H2 I2 iv,Runs Tryz.prog cnd H.next 34 (Code.loop (loopAt Tryz.prog 26 0)) [(0,.ptr (some ⟨d,0,0,0,6⟩)),(13,.slice o bs.length m),(14,.int .i64 bs.length),(15,.int .i64 0)] ⟨H1.next+3,H1.blks⟩ (.exit 0) [(0,.ptr (some ⟨d,0,0,0,6⟩)),(13,.slice o bs.length m),(14,.int .i64 bs.length),(15,iv)] H2 ∧
      DAt H2 d I2 (feedAll s bs).1 (feedAll s bs).2∧Fr H1 H2 d ⟨I.u,I.k,I.p,d⟩ I2:=by
    rcases ha with ⟨rfl,rfl⟩ | ⟨q,bv,bo,rfl,hb,hq,hoff⟩
    · obtain⟨e,F1,h1,hr,rfl,rfl,rfl⟩:=fd_end_vp ⟨H1.next+3,H1.blks⟩ H.next d (.slice none 0 m) (fun e F1 h1=>e= .exit 0∧F1= [(0,.ptr (some ⟨d,0,0,0,6⟩)),(13,.slice none 0 m),(14,.int .i64 0),(15,.int .i64 0)]∧h1=⟨H1.next+3+1,H1.blks⟩) (bif_ble (by show H.next≤H1.next+3;omega) ⟨rfl,rfl,rfl⟩)
      refine⟨_,⟨I.u,I.k,I.p,d⟩,.int .i64 0,Runs.of_loops (Loops.last (by simp) hr),nextD hg3,?_⟩
      exact⟨by show H1.next≤H1.next+3+1;omega,fun j _ _ _ _ _ _=>rfl,fun x hx=>by
        have hx:x=I.u∨x=I.k∨x=I.p∨x=d:=hx
        show x=d∨x=I.u∨x=I.k∨x=I.p∨x=d∨_
        omega⟩
    · have hb3:BAt ⟨H1.next+3,H1.blks⟩ q bv bo bs:=hb.keep (by show H1.get q=H.get q;exact hoff.get fr1 hq)
      have hoff2:Off q d ⟨I.u,I.k,I.p,d⟩:=hoff.fr fr1 hq
      obtain⟨H2,I2,hl,g2,fr2⟩:=fd_loop (B:=H.next) (m:=m) hn bs.length 0 ⟨H1.next+3,H1.blks⟩ ⟨I.u,I.k,I.p,d⟩ s [] (by omega) (by omega) (by show H.next≤H1.next+3;omega) hg3 hG (by simp only [List.length_nil];omega) hb3 (by show q<H1.next+3;omega) hoff2
      rw [List.drop_zero,List.nil_append]at g2
      exact⟨H2,I2,.int .i64 bs.length,Runs.of_loops hl,g2,nextFr1 fr2⟩
  obtain⟨H2,I2,iv,hL,g2,fr2⟩:=hloop
  obtain⟨f2,kv2,pv2,pas2,ov2,ty2,ed2,ho2,hud2,hcl2⟩:=g2.clear
  obtain⟨g3,fr3⟩:=hcl2 9
  generalize hH3:((⟨H2.next+9,H2.blks⟩:AHeap).set d (dRowV d f2 I2.u kv2 pv2 pas2 (.slice none 0 0) ty2))=H3 at g3 fr3
  have hst2:astore (AEnv.D env) 56 ⟨d,0,0,5,6⟩ (.slice none 0 0) ⟨H2.next+9,H2.blks⟩=some H3:=by rw [← hH3];exact store_out ed2
  have hn2:=fr2.next
  have hn3:H3.next=H2.next+9:=by rw [← hH3];rfl
  have hfr:Fr H ⟨H3.next+2,H3.blks⟩ d I ⟨I2.u,I2.k,I2.p,d⟩:=nextFr2 (fr1.trans (fr2.trans fr3))
  obtain⟨v,h',hd,hv,hh⟩:=fd_vc H H1 H2 H3 d bs.length m o ov2 iv (fun v h'=>v=ov2∧h'=⟨H3.next+2,H3.blks⟩) (by
    refine bif_ble (Nat.le_refl _) (bif_ble (by omega) (bif_ble (by omega) ⟨aop_store rfl hst,bif_ble (by omega) ⟨hL,bif_ble (by omega) ⟨load_out ed2,bif_ble (by omega) ⟨aop_store rfl hst2,bif_ble (by omega) ?_⟩⟩⟩⟩))
    rw [Nat.ble_eq.mpr (by omega)]
    exact⟨rfl,rfl⟩)
  subst hv hh
  have gf:DAt ⟨H3.next+2,H3.blks⟩ d ⟨I2.u,I2.k,I2.p,d⟩ (feedAll s bs).1 []:=nextD g3
  rcases ho2 with ⟨h1,h2,h3⟩ | ⟨h1,h2,ver,mm,ff,h3,h4⟩
  · exact⟨_,_,_,0,hd,gf,hfr,.inl ⟨h1,h2⟩,fun h=>absurd h2 h⟩
  · have lt2:=(by obtain⟨ks,gg,_⟩:=g2;exact gg.lt:d<H2.next∧I2.u<H2.next∧I2.k<H2.next∧I2.p<H2.next∧I2.o<H2.next)
    have hget:(⟨H3.next+2,H3.blks⟩:AHeap).get I2.o=some (gRowB ((feedAll s bs).2.map evA) 6 ver mm ff evTy):=by
      rw [← h4]
      show H3.get I2.o=H2.get I2.o
      rw [← hH3,AHeap.get_set_ne _ _ (Ne.symm h1)];rfl
    have hoff:Off I2.o d ⟨I2.u,I2.k,I2.p,d⟩:=by
      obtain⟨ks,gg,_⟩:=g2
      obtain⟨kv',pv',ov',ty',e',hk',hp',ho'⟩:=gg.ex
      obtain⟨j0,j1,j2,j3,uty,hu⟩:=gg.us
      refine⟨h1,fun h=> ?_,fun h=> ?_,fun h=> ?_,h1⟩
      · have h:I2.o=I2.u:=h
        rw [h,hu]at h4
        simp [ABlk.made]at h4
      · have h:I2.o=I2.k:=h
        cases ks with
        | nil=>exact h1 (by rw [h];exact hk'.2.2)
        | one=>have:=hk'.2.2.1;rw [← h,h4]at this;simp [ABlk.made]at this
        | grown junk=>obtain⟨_,_,_,_,_,this⟩:=hk';rw [← h,h4]at this;simp at this
      · have h:I2.o=I2.p:=h
        rcases hp' with ⟨_,_,hp'⟩ | ⟨_,_,_,_,_,_,this⟩
        · exact h1 (by rw [h];exact hp')
        · rw [← h,h4]at this;simp at this
    refine⟨_,_,_,I2.o,hd,gf,hfr,.inr ⟨h2,by show I2.o<H3.next+2;omega,ver,mm,ff,h3,hget⟩,fun _=>⟨hoff,?_⟩⟩
    have hid:I2.o=d∨I2.o=I.u∨I2.o=I.k∨I2.o=I.p∨I2.o=d∨H1.next≤I2.o:=fr2.ids I2.o (.inr (.inr (.inr rfl)))
    omega
theorem new_vc(K0:AVal→AHeap→Prop)(vc:K0 (.ptr (some ⟨3,0,0,0,6⟩)) (AHeap.rowsT 17 [(3,(ABlk.made ([.agg [.func (.func 30) [.ptr (some ⟨3,0,0,0,6⟩)] [],.slice none 0 0,.slice none 0 0,.bool false,.ptr (some ⟨7,0,0,0,5⟩),.slice none 0 0]]) 6 true (some (68,6)))),(7,ABlk.made [.agg [.int .u8 0,.int .u8 0,.int .u8 0,.int .u8 0,.int .i64 0]] 5 true (some (97,5)))])) :
    ∃ v h1,FDoes Tryz.prog cnd 14 [] (⟨0,.nil⟩) v h1∧K0 v h1 :=
  tcall_does env_ok mixed noSpecs_ok (hs:=he 1000 .nil) (by kernel_rfl) vc
theorem held_vc(f kn pn km pm:Nat)(ko po:Option AAddr)(pas:Bool)(ov:AVal)(U K P O:ABlk)(dty:Option (TypeId×Nat))(K0:AVal→AHeap→Prop)(vc:(-9223372036854775808≤(pn:Int)+(kn:Int)∧(pn:Int)+(kn:Int)≤9223372036854775807)∧K0 (.int .i64 ((pn:Int)+(kn:Int))) (AHeap.rowsT 20 [(0,⟨[.agg [(zv29_2 f),.slice ko kn km,.slice po pn pm,.bool pas,.ptr (some ⟨1,0,0,0,5⟩),ov]],6,true,false,0,0,0,dty⟩),(1,U),(2,K),(3,P),(4,O)])) :
    ∃ v h1,FDoes Tryz.prog cnd 16 [.ptr (some ⟨0,0,0,0,6⟩)] (AHeap.of [dRowV 0 f 1 (.slice ko kn km) (.slice po pn pm) pas ov dty,U,K,P,O]) v h1∧K0 v h1 :=
  tcall_does env_ok mixed noSpecs_ok (hs:=hg 3010 .nil) (by kernel_rfl) vc
theorem end_vc(k0 k1 k2 k3:Int)(n:Nat)(ty:Option (TypeId×Nat))(K0:AVal→AHeap→Prop)(vc:((n:Int)=0→K0 (.slice none 0 0) (AHeap.rowsT 12 [(0,⟨[.agg [.int .u8 k0,.int .u8 k1,.int .u8 k2,.int .u8 k3,.int .i64 (n:Int)]],5,true,false,0,0,0,ty⟩)]))∧(¬(n:Int)=0→K0 (.slice (some ⟨15,0,0,0,1⟩) 1 1) (AHeap.rowsT 17 [(0,(zv1_11 k0 k1 k2 k3 ty)),(15,ABlk.made [.int .i32 65533] 1 true)]))) :
    ∃ v h1,FDoes Tryz.prog cnd 57 [.ptr (some ⟨0,0,0,0,5⟩)] (AHeap.of [uRow k0 k1 k2 k3 n ty]) v h1∧K0 v h1 :=
  tcall_does env_ok mixed noSpecs_ok (hs:= .br 1007 .nil .nil) (by kernel_rfl) vc
theorem new_does(H:AHeap): ∃ H' d I,FDoes Tryz.prog cnd 14 [] H (.ptr (some ⟨d,0,0,0,6⟩)) H'∧DAt H' d I ⟨.ground,[],[],[]⟩ []∧H.next≤d∧H.next≤I.u∧I.k=d∧I.p=d∧I.o=d∧H.next≤H'.next∧ ∀ j,j<H.next→H'.get j=H.get j:=by
  obtain⟨v,h1,hd,rfl,e3,e7,hn⟩:=new_vc (fun v h1=>v= .ptr (some ⟨3,0,0,0,6⟩)∧h1.get 3=some (dRowV 3 (fnOf .ground) 7 (.slice none 0 0) (.slice none 0 0) false (.slice none 0 0) (some (68,6)))∧h1.get 7=some (uRow 0 0 0 0 0 (some (97,5)))∧h1.next=17) ⟨rfl,rfl,rfl,rfl⟩
  have hd0:FDoes Tryz.prog cnd 14 [] (AHeap.of []) (.ptr (some ⟨3,0,0,0,6⟩)) h1:=hd
  obtain⟨H',hd',hnx,hget,hout⟩:=hd0.place (by simp) (fun b hb=>by cases hb) trivial (H:=H) [] List.nodup_nil (fun j hj=>by cases hj) rfl (fun i b h=>by simp at h)
  have r: ∀ i,toBig [] H.next i=H.next+i:=fun i=>by rw [toBig_ge (by simp)];simp
  have g3:=hget 3 _ e3
  have g7:=hget 7 _ e7
  rw [r,(uRow_bare _ _ _ _ _ _).ren]at g7
  rw [r]at g3
  have e0:(dRowV 3 (fnOf .ground) 7 (.slice none 0 0) (.slice none 0 0) false (.slice none 0 0) (some (68,6))).ren (toBig [] H.next)=dRowV (H.next+3) (fnOf .ground) (H.next+7) (.slice none 0 0) (.slice none 0 0) false (.slice none 0 0) (some (68,6)):=by
    simp [ABlk.ren,ABlk.made,AVal.ren,AVal.rens,AAddr.ren,r]
  rw [e0]at g3
  have hnx':H'.next=H.next+17:=by rw [hnx,hn];simp
  refine⟨H',H.next+3,⟨H.next+7,H.next+3,H.next+3,H.next+3⟩,?_,⟨.nil,⟨⟨_,_,_,_,g3,⟨rfl,rfl,rfl⟩,.inl ⟨rfl,rfl,rfl⟩,.inl ⟨rfl,rfl,rfl⟩⟩,⟨0,0,0,0,_,g7⟩,?_,.inl rfl⟩,trivial⟩,by omega,by show H.next≤H.next+7;omega,rfl,rfl,rfl,by omega,fun j hj=>hout j hj (by simp)⟩
  · simpa [AVal.ren,AAddr.ren,r]using hd'
  · show H.next+3<H'.next∧H.next+7<H'.next∧H.next+3<H'.next∧H.next+3<H'.next∧H.next+3<H'.next
    omega
theorem kat_slice {h:AHeap}{d k:Nat}{v:AVal}{ks:KS}{l:Bytes}(hk:KAt h d k v ks l): ∃ o,v= .slice o l.length l.length:=by
  cases ks with
  | nil=>obtain⟨rfl,rfl,_⟩:=hk;exact⟨none,rfl⟩
  | one=>obtain⟨_,rfl,_,rfl⟩:=hk;exact⟨_,rfl⟩
  | grown j=>obtain⟨_,_,_,_,rfl,_⟩:=hk;exact⟨_,rfl⟩
theorem pat_slice {h:AHeap}{d k:Nat}{v:AVal}{l:Bytes}(hp:PAt h d k v l): ∃ o,v= .slice o l.length l.length:=by
  rcases hp with ⟨rfl,rfl,_⟩ | ⟨_,_,_,_,_,rfl,_⟩
  · exact⟨none,rfl⟩
  · exact⟨_,rfl⟩
theorem held_does {H:AHeap} {d:Nat} {I:Ids} {s:DS} {es:List Ev} (g:DAt H d I s es) (hk:s.kept.length<2^40) (hp:s.paste.length<2^40): ∃ H',FDoes Tryz.prog cnd 16 [.ptr (some ⟨d,0,0,0,6⟩)] H (.int .i64 (held s:Nat)) H'∧ ∃ I',DAt H' d I' s es∧Fr H H' d I I':=by
  obtain⟨ks,g,hs⟩:=g
  refine g.lift (Q:=fun h d I=>DAt h d I s es) (rest:= []) (fun a ha=>by cases ha) (Bare.int _ _) (fun h' H' r d I hr hinj hlt q=>q.big hr hinj hlt) ?_
  intro kv pv ov ty uty j0 j1 j2 j3 K P O I0 gs hI
  obtain⟨iu,ik,ip,io⟩:=I0
  obtain rfl:iu=1:=hI.1
  obtain⟨hk1,hp1,ho1⟩:=gs_parts gs
  obtain⟨ko,rfl⟩:=kat_slice hk1
  obtain⟨po,rfl⟩:=pat_slice hp1
  obtain⟨v,h',hd,rfl,e0,e1,e2,e3,e4,hn⟩:=held_vc (fnOf s.nx) s.kept.length s.paste.length s.kept.length s.paste.length ko po (decide (s.nx= .pasted)) ov (uRowH s.hold j0 j1 j2 j3 uty) K P O ty (fun v h'=>v= .int .i64 (held s:Nat)∧h'.get 0=some (dRowV 0 (fnOf s.nx) 1 (.slice ko s.kept.length s.kept.length) (.slice po s.paste.length s.paste.length) (decide (s.nx= .pasted)) ov ty)∧h'.get 1=some (uRowH s.hold j0 j1 j2 j3 uty)∧h'.get 2=some K∧h'.get 3=some P∧h'.get 4=some O∧h'.next=20)
    ⟨⟨by omega,by omega⟩,by unfold held;rw [show((s.paste.length+s.kept.length:Nat):Int)=(s.paste.length:Int)+(s.kept.length:Int)by omega],rfl,rfl,rfl,rfl,rfl,rfl⟩
  refine⟨h',hd,⟨1,ik,ip,io⟩,⟨ks,⟨⟨_,_,_,_,e0,?_,?_,?_⟩,⟨j0,j1,j2,j3,uty,e1⟩,?_,gs.ne⟩,hs⟩,⟨by show 5≤h'.next;omega,?_,fun x hx=> ?_⟩⟩
  · exact hk1.keep fun hn=>by
      rcases hI.2.1 with h | h
      · exact absurd h hn
      · simp only at h
        subst h
        rw [e2,AHeap.of_get];rfl
  · exact hp1.keep fun hn=>by
      rcases hI.2.2.1 with h | h
      · exact absurd h hn
      · simp only at h
        subst h
        rw [e3,AHeap.of_get];rfl
  · exact ho1.keep fun hn=>by
      rcases hI.2.2.2 with h | h
      · exact absurd h hn
      · simp only at h
        subst h
        rw [e4,AHeap.of_get];rfl
  · have h2:=hI.2.1;have h3:=hI.2.2.1;have h4:=hI.2.2.2
    simp only at h2 h3 h4
    show 0<h'.next∧1<h'.next∧ik<h'.next∧ip<h'.next∧io<h'.next
    omega
  · intro j hj n1 n2 n3 n4 n5
    have hj:j<5:=hj
    have n2:j≠1:=n2
    have:j=2∨j=3∨j=4:=by omega
    rw [AHeap.of_get]
    rcases this with rfl | rfl | rfl
    · rw [e2];rfl
    · rw [e3];rfl
    · rw [e4];rfl
  · have hx:x=1∨x=ik∨x=ip∨x=io:=hx
    show x=0∨x=1∨x=ik∨x=ip∨x=io∨5≤x
    omega
theorem fdoes_undef {f:FuncId}{args:List AVal}{h h':AHeap}{v:AVal}(k:FDoes Tryz.prog cnd f args h v h'):FDoes Tryz.prog cnd f args h .undef h':=by
  intro N0 w0 hN hC φ w args' hH hB hA
  obtain⟨a,b⟩:=k N0 w0 hN hC φ w args' hH hB hA
  exact⟨a,b.mono fun e w' ⟨v',φ',q1,q2,q3,q4,q5,q6⟩=>⟨v',φ',q1,q2,by simp only [VRel],q4,q5,q6⟩⟩
structure EndPre(h:AHeap)(a:AAddr):Prop where
  at':a=⟨a.id,0,0,0,5⟩
  lt:a.id<h.next
  ex: ∃ hold j0 j1 j2 j3 ty,h.get a.id=some (uRowH hold j0 j1 j2 j3 ty)
structure EndP(h:AHeap)(a:AAddr)(h':AHeap):Prop where
  all: ∀ hold j0 j1 j2 j3 ty,h.get a.id=some (uRowH hold j0 j1 j2 j3 ty)→ ∃ i0 i1 i2 i3,h'.get a.id=some (uRowH [] i0 i1 i2 i3 ty)
  get: ∀ j,j<h.next→j≠a.id→h'.get j=h.get j
  next:h.next≤h'.next
def endS:List AVal→AHeap→Option Alts:=fun args h=>match args with
  | [.ptr (some a)]=>some (.some .undef [EndPre h a] (EndP h a))
  | _=>none
theorem end_does {H:AHeap}{u:Nat}{hold:Bytes}{j0 j1 j2 j3:Int}{ty:Option (TypeId×Nat)}(hu:u<H.next)(hg:H.get u=some (uRowH hold j0 j1 j2 j3 ty)): ∃ H' i0 i1 i2 i3,FDoes Tryz.prog cnd 57 [.ptr (some ⟨u,0,0,0,5⟩)] H .undef H'∧H'.get u=some (uRowH [] i0 i1 i2 i3 ty)∧(∀ j,j<H.next→j≠u→H'.get j=H.get j)∧H.next≤H'.next:=by
  obtain⟨v,h1,hd,hg1,hn1⟩:=end_vc (uK hold 0 j0) (uK hold 1 j1) (uK hold 2 j2) (uK hold 3 j3) hold.length ty (fun v h1=>h1.get 0=some (uRow (uK hold 0 j0) (uK hold 1 j1) (uK hold 2 j2) (uK hold 3 j3) 0 ty)∧1≤h1.next) ⟨fun h=>⟨by rw [h];rfl,by show 1≤12;decide⟩,fun _=>⟨rfl,by show 1≤17;decide⟩⟩
  obtain⟨H',hd',hnx,hget,hout⟩:=hd.place hn1 (fun b hb=>by rw [List.mem_singleton.1 hb];exact(uRow_bare _ _ _ _ _ _).clo _) (by exact⟨by show 0<1;decide,trivial⟩) (H:=H) [u] (by simp) (fun j hj=>by rw [List.mem_singleton.1 hj];exact hu) rfl (fun i b h=>by
    have hi:i=0:=by have:=(List.getElem?_eq_some_iff.1 h).1;simpa using this
    subst hi
    simp only [List.getElem?_cons_zero,Option.some.injEq]at h
    subst h
    rw [(uRow_bare _ _ _ _ _ _).ren]
    exact hg)
  refine⟨H',uK hold 0 j0,uK hold 1 j1,uK hold 2 j2,uK hold 3 j3,?_,?_,fun j hj hne=>hout j hj (by simpa using hne),by omega⟩
  · have:=fdoes_undef hd'
    simpa [AVal.ren,AAddr.ren,toBig]using this
  · have:=hget 0 _ hg1
    rw [(uRow_bare _ _ _ _ _ _).ren]at this
    exact this
theorem uRowH_inj {h h2:Bytes}{j0 j1 j2 j3 i0 i1 i2 i3:Int}{ty ty2:Option (TypeId×Nat)}(e:uRowH h j0 j1 j2 j3 ty=uRowH h2 i0 i1 i2 i3 ty2):ty=ty2:=by
  simp only [ABlk.made,ABlk.mk.injEq]at e
  exact e.2.2.2.2.2.2.2
theorem endS_ok: ∀ args h a,endS args h=some a→a.Ok Tryz.prog cnd 57 args h:=by
  intro args h a e
  unfold endS at e
  split at e<;>first | (cases e;done) | skip
  rename_i a
  simp only [Option.some.injEq]at e
  subst e
  intro hp
  obtain⟨hold,j0,j1,j2,j3,ty,hg⟩:=hp.head.ex
  obtain⟨H',i0,i1,i2,i3,hd,g1,g2,g3⟩:=end_does hp.head.lt hg
  rw [← hp.head.at']at hd
  refine⟨H',hd,⟨fun hold2 k0 k1 k2 k3 ty2 hg2=> ?_,g2,g3⟩⟩
  rw [hg]at hg2
  have:=uRowH_inj (Option.some.inj hg2)
  subst this
  exact⟨i0,i1,i2,i3,g1⟩
noncomputable def specsL:Specs:=specs3.add 57 endS
theorem specsL_ok:SpecsOk Tryz.prog cnd specsL:=specs3_ok.add endS_ok
theorem flA_vc(H:AHeap)(d:Nat)(K0:AVal→AHeap→Prop)(vc:bif Nat.ble (H.next) (H.next) && true then bif Nat.ble (H.next) (H.next+1) && true then aload env.D 4 ⟨d,0,0,3,6⟩ (AHeap.mk (H.next+17) (H.2))=some (AVal.bool true)∧bif Nat.ble (H.next) (H.next+17) && true then bif Nat.ble (H.next) (H.next+18)then K0 (.slice none 0 0) (AHeap.mk (H.next+17+1) (AHeap.blks (AHeap.mk (H.next+1+16) (AHeap.blks (AHeap.mk (H.next+1) (AHeap.blks H))))))else False else False else False else False) :
    ∃ v h1,FDoes Tryz.prog cnd 27 [.ptr (some ⟨d,0,0,0,6⟩)] H v h1∧K0 v h1 :=
  tcall_does env_ok mixed specsL_ok (hs:= .hint (.val 1006 (.bool true)) .nil) (by kernel_rfl) vc
theorem flB_vc(H:AHeap)(d:Nat)(ko:Option AAddr)(K0:AVal→AHeap→Prop)(vc:bif Nat.ble (H.next) (H.next) && true then bif Nat.ble (H.next) (H.next+1) && true then aload env.D 4 ⟨d,0,0,3,6⟩ (AHeap.mk (H.next+17) (H.2))=some (AVal.bool false)∧aload env.D 34 ⟨d,0,0,1,6⟩ (AHeap.mk (H.next+17) (H.2))=some (AVal.slice ko 0 0)∧bif Nat.ble (H.next) (H.next+17) && true then bif Nat.ble (H.next) (H.next+18)then K0 (.slice none 0 0) (AHeap.mk (H.next+17+1) (AHeap.blks (AHeap.mk (H.next+1+16) (AHeap.blks (AHeap.mk (H.next+1) (AHeap.blks H))))))else False else False else False else False) :
    ∃ v h1,FDoes Tryz.prog cnd 27 [.ptr (some ⟨d,0,0,0,6⟩)] H v h1∧K0 v h1 :=
  tcall_does env_ok mixed specsL_ok (hs:= .hint (.val 1006 (.bool false)) (.hint (.val 1012 (.slice ko 0 0)) .nil)) (by kernel_rfl) vc
abbrev zv88_0(H4:AHeap):AHeap:=(AHeap.mk (H4.next+2) (AHeap.blks H4))
abbrev zv88_1(H4:AHeap)(x:Nat)(ov:AVal):HT:=(.hint (.val 13003 ov) (.hint (.act 14003 (.tuple []) fun x=>H4) .nil))
abbrev zv88_2(t:Bytes):AVal:=AVal.agg [.int .i8 7,.int .i32 0,.int .u8 0,.int .i64 0,.int .i64 0,.str t]
abbrev zv88_3(x:Nat):AVal:=AVal.agg [.int .i8 1,.int .i32 (x:Int),.int .u8 2,.int .i64 0,.int .i64 0,.str []]
theorem flC_vc(H H1 H2 H3 H4:AHeap)(d u kn x:Nat)(ko ko2:Option AAddr)(t:Bytes)(ov:AVal)(K0:AVal→AHeap→Prop)(vc:bif Nat.ble (H.next) (H.next) && true then bif Nat.ble (H.next) (H.next+1) && true then aload env.D 4 ⟨d,0,0,3,6⟩ (AHeap.mk (H.next+17) (H.2))=some (AVal.bool false)∧aload env.D 34 ⟨d,0,0,1,6⟩ (AHeap.mk (H.next+17) (H.2))=some (AVal.slice ko (kn+1) (kn+1))∧bif Nat.ble (H.next) (H.next+17) && true then aop env noCall (H.next+20) (getF [(23,.ptr (some ⟨d,0,0,5,6⟩)),(22,.ptr (some ⟨d,0,0,0,6⟩)),(21,.ptr (some ⟨d,0,0,0,6⟩)),(20,.bool false),(19,.bool false),(18,.int .i64 (↑(kn+1):Int)),(17,.slice ko (kn+1) (kn+1)),(16,.ptr (some ⟨d,0,0,1,6⟩)),(15,.ptr (some ⟨d,0,0,0,6⟩)),(14,.ptr (some ⟨d,0,0,0,6⟩)),(13,.bool false),(12,.bool false),(11,.bool false),(10,.ptr (some ⟨d,0,0,3,6⟩)),(9,.ptr (some ⟨d,0,0,0,6⟩)),(8,.ptr (some ⟨d,0,0,0,6⟩)),(7,.bool false),(6,.bool false),(5,.ptr (some ⟨d,0,0,0,6⟩)),(2,.slice none 0 0),(0,.ptr (some ⟨d,0,0,0,6⟩))]) (AHeap.mk (H.next+21) (H.2)) (Op.store 56 (Operand.tmp 23) (Operand.const (Value.slice none 0 0)))=some (AVal.tuple [],H1)∧bif Nat.ble (H.next) (H1.next) && true then aload env.D 64 ⟨d,0,0,4,6⟩ (AHeap.mk (H1.next+5) (H1.2))=some (AVal.ptr (some ⟨u,0,0,0,5⟩))∧CallT Tryz.prog cnd 57 [.ptr (some ⟨u,0,0,0,5⟩)] (AHeap.mk (H1.next+5) (H1.2)) AVal.undef H2∧bif Nat.ble (H.next) (H2.next) && true then aload env.D 34 ⟨d,0,0,1,6⟩ (AHeap.mk (H2.next+6) (H2.2))=some (AVal.slice ko2 (kn+1) (kn+1))∧xop env (H2.next+4) (getF [(32,.slice ko2 (kn+1) (kn+1)),(31,.ptr (some ⟨d,0,0,1,6⟩)),(30,.ptr (some ⟨d,0,0,0,6⟩)),(29,.ptr (some ⟨d,0,0,0,6⟩)),(28,AVal.undef),(27,.ptr (some ⟨u,0,0,0,5⟩)),(26,.ptr (some ⟨d,0,0,4,6⟩)),(25,.ptr (some ⟨d,0,0,0,6⟩)),(24,.ptr (some ⟨d,0,0,0,6⟩)),(23,.ptr (some ⟨d,0,0,5,6⟩)),(22,.ptr (some ⟨d,0,0,0,6⟩)),(21,.ptr (some ⟨d,0,0,0,6⟩)),(20,.bool false),(19,.bool false),(18,.int .i64 (↑(kn+1):Int)),(17,.slice ko (kn+1) (kn+1)),(16,.ptr (some ⟨d,0,0,1,6⟩)),(15,.ptr (some ⟨d,0,0,0,6⟩)),(14,.ptr (some ⟨d,0,0,0,6⟩)),(13,.bool false),(12,.bool false),(11,.bool false),(10,.ptr (some ⟨d,0,0,3,6⟩)),(9,.ptr (some ⟨d,0,0,0,6⟩)),(8,.ptr (some ⟨d,0,0,0,6⟩)),(7,.bool false),(6,.bool false),(5,.ptr (some ⟨d,0,0,0,6⟩)),(2,.slice none 0 0),(0,.ptr (some ⟨d,0,0,0,6⟩))]) (AHeap.mk (H2.next+6) (H2.2)) (Op.convert 34 9 (Operand.tmp 32))=some (AVal.str t,(AHeap.mk (H2.next+6) (H2.2)))∧bif Nat.ble (H.next) (H2.next+6) && true then bif Nat.ble (H.next) (H2.next+7) && true then(t= [(27:UInt8)]→bif Nat.ble (H.next) (H2.next+9) && true then CallT Tryz.prog cnd 58 [.ptr (some ⟨d,0,0,0,6⟩),zv33_0] (AHeap.mk (H2.next+12) (H2.2)) (.tuple []) H3∧bif Nat.ble (H.next) (H3.next) && true then aload env.D 56 ⟨d,0,0,5,6⟩ (AHeap.mk (H3.next+5) (H3.2))=some ov∧bif Nat.ble (H.next) (H3.next+5) && true then aop env noCall (H3.next+8) (getF [(59,.ptr (some ⟨d,0,0,5,6⟩)),(58,.ptr (some ⟨d,0,0,0,6⟩)),(57,.ptr (some ⟨d,0,0,0,6⟩)),(4,ov),(56,ov),(55,.ptr (some ⟨d,0,0,5,6⟩)),(54,.ptr (some ⟨d,0,0,0,6⟩)),(53,.ptr (some ⟨d,0,0,0,6⟩)),(43,.tuple []),(42,zv33_0),(41,.ptr (some ⟨d,0,0,0,6⟩)),(39,.bool true),(40,.bool true),(34,.str t),(3,.str t),(33,.str t),(32,.slice ko2 (kn+1) (kn+1)),(31,.ptr (some ⟨d,0,0,1,6⟩)),(30,.ptr (some ⟨d,0,0,0,6⟩)),(29,.ptr (some ⟨d,0,0,0,6⟩)),(28,AVal.undef),(27,.ptr (some ⟨u,0,0,0,5⟩)),(26,.ptr (some ⟨d,0,0,4,6⟩)),(25,.ptr (some ⟨d,0,0,0,6⟩)),(24,.ptr (some ⟨d,0,0,0,6⟩)),(23,.ptr (some ⟨d,0,0,5,6⟩)),(22,.ptr (some ⟨d,0,0,0,6⟩)),(21,.ptr (some ⟨d,0,0,0,6⟩)),(20,.bool false),(19,.bool false),(18,.int .i64 (↑(kn+1):Int)),(17,.slice ko (kn+1) (kn+1)),(16,.ptr (some ⟨d,0,0,1,6⟩)),(15,.ptr (some ⟨d,0,0,0,6⟩)),(14,.ptr (some ⟨d,0,0,0,6⟩)),(13,.bool false),(12,.bool false),(11,.bool false),(10,.ptr (some ⟨d,0,0,3,6⟩)),(9,.ptr (some ⟨d,0,0,0,6⟩)),(8,.ptr (some ⟨d,0,0,0,6⟩)),(7,.bool false),(6,.bool false),(5,.ptr (some ⟨d,0,0,0,6⟩)),(2,.slice none 0 0),(0,.ptr (some ⟨d,0,0,0,6⟩))]) (AHeap.mk (H3.next+9) (H3.2)) (Op.store 56 (Operand.tmp 59) (Operand.const (Value.slice none 0 0)))=some (AVal.tuple [],H4)∧bif Nat.ble (H.next) (H4.next) && true then bif Nat.ble (H.next) (H4.next+2)then K0 ov (zv88_0 H4)else False else False else False else False else False)∧(¬t= [(27:UInt8)]→bif Nat.ble (H.next) (H2.next+9) && true then(t= [(27:UInt8),(91:UInt8)]→bif Nat.ble (H.next) (H2.next+11) && true then aindex env.D 9 (.str t) (.int .i64 1)=some (.int .u8 (x:Int))∧(-2147483648≤(x:Int)∧(x:Int)≤2147483647)∧CallT Tryz.prog cnd 58 [.ptr (some ⟨d,0,0,0,6⟩),(zv88_3 x)] (AHeap.mk (H2.next+17) (H2.2)) (.tuple []) H3∧bif Nat.ble (H.next) (H3.next) && true then aload env.D 56 ⟨d,0,0,5,6⟩ (AHeap.mk (H3.next+5) (H3.2))=some ov∧bif Nat.ble (H.next) (H3.next+5) && true then aop env noCall (H3.next+8) (getF [(59,.ptr (some ⟨d,0,0,5,6⟩)),(58,.ptr (some ⟨d,0,0,0,6⟩)),(57,.ptr (some ⟨d,0,0,0,6⟩)),(4,ov),(56,ov),(55,.ptr (some ⟨d,0,0,5,6⟩)),(54,.ptr (some ⟨d,0,0,0,6⟩)),(53,.ptr (some ⟨d,0,0,0,6⟩)),(52,.tuple []),(51,(zv88_3 x)),(50,.int .i32 (x:Int)),(49,.int .u8 (x:Int)),(48,.str t),(47,.ptr (some ⟨d,0,0,0,6⟩)),(44,.bool true),(45,.bool true),(39,.bool false),(40,.bool false),(34,.str t),(3,.str t),(33,.str t),(32,.slice ko2 (kn+1) (kn+1)),(31,.ptr (some ⟨d,0,0,1,6⟩)),(30,.ptr (some ⟨d,0,0,0,6⟩)),(29,.ptr (some ⟨d,0,0,0,6⟩)),(28,AVal.undef),(27,.ptr (some ⟨u,0,0,0,5⟩)),(26,.ptr (some ⟨d,0,0,4,6⟩)),(25,.ptr (some ⟨d,0,0,0,6⟩)),(24,.ptr (some ⟨d,0,0,0,6⟩)),(23,.ptr (some ⟨d,0,0,5,6⟩)),(22,.ptr (some ⟨d,0,0,0,6⟩)),(21,.ptr (some ⟨d,0,0,0,6⟩)),(20,.bool false),(19,.bool false),(18,.int .i64 (↑(kn+1):Int)),(17,.slice ko (kn+1) (kn+1)),(16,.ptr (some ⟨d,0,0,1,6⟩)),(15,.ptr (some ⟨d,0,0,0,6⟩)),(14,.ptr (some ⟨d,0,0,0,6⟩)),(13,.bool false),(12,.bool false),(11,.bool false),(10,.ptr (some ⟨d,0,0,3,6⟩)),(9,.ptr (some ⟨d,0,0,0,6⟩)),(8,.ptr (some ⟨d,0,0,0,6⟩)),(7,.bool false),(6,.bool false),(5,.ptr (some ⟨d,0,0,0,6⟩)),(2,.slice none 0 0),(0,.ptr (some ⟨d,0,0,0,6⟩))]) (AHeap.mk (H3.next+9) (H3.2)) (Op.store 56 (Operand.tmp 59) (Operand.const (Value.slice none 0 0)))=some (AVal.tuple [],H4)∧bif Nat.ble (H.next) (H4.next) && true then bif Nat.ble (H.next) (H4.next+2)then K0 ov (zv88_0 H4)else False else False else False else False else False)∧(¬t= [(27:UInt8),(91:UInt8)]→bif Nat.ble (H.next) (H2.next+11) && true then(t= [(27:UInt8),(79:UInt8)]→bif Nat.ble (H.next) (H2.next+13) && true then aindex env.D 9 (.str t) (.int .i64 1)=some (.int .u8 (x:Int))∧(-2147483648≤(x:Int)∧(x:Int)≤2147483647)∧CallT Tryz.prog cnd 58 [.ptr (some ⟨d,0,0,0,6⟩),(zv88_3 x)] (AHeap.mk (H2.next+19) (H2.2)) (.tuple []) H3∧bif Nat.ble (H.next) (H3.next) && true then aload env.D 56 ⟨d,0,0,5,6⟩ (AHeap.mk (H3.next+5) (H3.2))=some ov∧bif Nat.ble (H.next) (H3.next+5) && true then aop env noCall (H3.next+8) (getF [(59,.ptr (some ⟨d,0,0,5,6⟩)),(58,.ptr (some ⟨d,0,0,0,6⟩)),(57,.ptr (some ⟨d,0,0,0,6⟩)),(4,ov),(56,ov),(55,.ptr (some ⟨d,0,0,5,6⟩)),(54,.ptr (some ⟨d,0,0,0,6⟩)),(53,.ptr (some ⟨d,0,0,0,6⟩)),(52,.tuple []),(51,(zv88_3 x)),(50,.int .i32 (x:Int)),(49,.int .u8 (x:Int)),(48,.str t),(47,.ptr (some ⟨d,0,0,0,6⟩)),(44,.bool true),(46,.bool true),(45,.bool false),(39,.bool false),(40,.bool false),(34,.str t),(3,.str t),(33,.str t),(32,.slice ko2 (kn+1) (kn+1)),(31,.ptr (some ⟨d,0,0,1,6⟩)),(30,.ptr (some ⟨d,0,0,0,6⟩)),(29,.ptr (some ⟨d,0,0,0,6⟩)),(28,AVal.undef),(27,.ptr (some ⟨u,0,0,0,5⟩)),(26,.ptr (some ⟨d,0,0,4,6⟩)),(25,.ptr (some ⟨d,0,0,0,6⟩)),(24,.ptr (some ⟨d,0,0,0,6⟩)),(23,.ptr (some ⟨d,0,0,5,6⟩)),(22,.ptr (some ⟨d,0,0,0,6⟩)),(21,.ptr (some ⟨d,0,0,0,6⟩)),(20,.bool false),(19,.bool false),(18,.int .i64 (↑(kn+1):Int)),(17,.slice ko (kn+1) (kn+1)),(16,.ptr (some ⟨d,0,0,1,6⟩)),(15,.ptr (some ⟨d,0,0,0,6⟩)),(14,.ptr (some ⟨d,0,0,0,6⟩)),(13,.bool false),(12,.bool false),(11,.bool false),(10,.ptr (some ⟨d,0,0,3,6⟩)),(9,.ptr (some ⟨d,0,0,0,6⟩)),(8,.ptr (some ⟨d,0,0,0,6⟩)),(7,.bool false),(6,.bool false),(5,.ptr (some ⟨d,0,0,0,6⟩)),(2,.slice none 0 0),(0,.ptr (some ⟨d,0,0,0,6⟩))]) (AHeap.mk (H3.next+9) (H3.2)) (Op.store 56 (Operand.tmp 59) (Operand.const (Value.slice none 0 0)))=some (AVal.tuple [],H4)∧bif Nat.ble (H.next) (H4.next) && true then bif Nat.ble (H.next) (H4.next+2)then K0 ov (zv88_0 H4)else False else False else False else False else False)∧(¬t= [(27:UInt8),(79:UInt8)]→bif Nat.ble (H.next) (H2.next+13) && true then CallT Tryz.prog cnd 58 [.ptr (some ⟨d,0,0,0,6⟩),(zv88_2 t)] (AHeap.mk (H2.next+17) (H2.2)) (.tuple []) H3∧bif Nat.ble (H.next) (H3.next) && true then aload env.D 56 ⟨d,0,0,5,6⟩ (AHeap.mk (H3.next+5) (H3.2))=some ov∧bif Nat.ble (H.next) (H3.next+5) && true then aop env noCall (H3.next+8) (getF [(59,.ptr (some ⟨d,0,0,5,6⟩)),(58,.ptr (some ⟨d,0,0,0,6⟩)),(57,.ptr (some ⟨d,0,0,0,6⟩)),(4,ov),(56,ov),(55,.ptr (some ⟨d,0,0,5,6⟩)),(54,.ptr (some ⟨d,0,0,0,6⟩)),(53,.ptr (some ⟨d,0,0,0,6⟩)),(38,.tuple []),(37,(zv88_2 t)),(36,.str t),(35,.ptr (some ⟨d,0,0,0,6⟩)),(44,.bool false),(46,.bool false),(45,.bool false),(39,.bool false),(40,.bool false),(34,.str t),(3,.str t),(33,.str t),(32,.slice ko2 (kn+1) (kn+1)),(31,.ptr (some ⟨d,0,0,1,6⟩)),(30,.ptr (some ⟨d,0,0,0,6⟩)),(29,.ptr (some ⟨d,0,0,0,6⟩)),(28,AVal.undef),(27,.ptr (some ⟨u,0,0,0,5⟩)),(26,.ptr (some ⟨d,0,0,4,6⟩)),(25,.ptr (some ⟨d,0,0,0,6⟩)),(24,.ptr (some ⟨d,0,0,0,6⟩)),(23,.ptr (some ⟨d,0,0,5,6⟩)),(22,.ptr (some ⟨d,0,0,0,6⟩)),(21,.ptr (some ⟨d,0,0,0,6⟩)),(20,.bool false),(19,.bool false),(18,.int .i64 (↑(kn+1):Int)),(17,.slice ko (kn+1) (kn+1)),(16,.ptr (some ⟨d,0,0,1,6⟩)),(15,.ptr (some ⟨d,0,0,0,6⟩)),(14,.ptr (some ⟨d,0,0,0,6⟩)),(13,.bool false),(12,.bool false),(11,.bool false),(10,.ptr (some ⟨d,0,0,3,6⟩)),(9,.ptr (some ⟨d,0,0,0,6⟩)),(8,.ptr (some ⟨d,0,0,0,6⟩)),(7,.bool false),(6,.bool false),(5,.ptr (some ⟨d,0,0,0,6⟩)),(2,.slice none 0 0),(0,.ptr (some ⟨d,0,0,0,6⟩))]) (AHeap.mk (H3.next+9) (H3.2)) (Op.store 56 (Operand.tmp 59) (Operand.const (Value.slice none 0 0)))=some (AVal.tuple [],H4)∧bif Nat.ble (H.next) (H4.next) && true then bif Nat.ble (H.next) (H4.next+2)then K0 ov (zv88_0 H4)else False else False else False else False else False)else False)else False)else False else False else False else False else False else False else False) :
    ∃ v h1,FDoes Tryz.prog cnd 27 [.ptr (some ⟨d,0,0,0,6⟩)] H v h1∧K0 v h1 :=
  tcall_does env_ok mixed specsL_ok (hs:= .hint (.val 1006 (.bool false)) (.hint (.val 1012 (.slice ko (kn+1) (kn+1))) (.hint (.act 3003 (.tuple []) fun x=>H1) (.hint (.val 4003 (.ptr (some ⟨u,0,0,0,5⟩))) (.hint (.act 4004 AVal.undef fun x=>H2) (.hint (.val 5003 (.slice ko2 (kn+1) (kn+1))) (.hint (.cv 5004 (.str t) fun h=>h) (.br 8000 (.hint (.act 9002 (.tuple []) fun x=>H3) (zv88_1 H4 x ov)) (.br 10000 (.hint (.val 12002 (.int .u8 (x:Int))) (hg 12003 (.hint (.act 12005 (.tuple []) fun x=>H3) (zv88_1 H4 x ov)))) (.br 11000 (.hint (.val 12002 (.int .u8 (x:Int))) (hg 12003 (.hint (.act 12005 (.tuple []) fun x=>H3) (zv88_1 H4 x ov)))) (.hint (.act 7003 (.tuple []) fun x=>H3) (zv88_1 H4 x ov)))))))))))) (by kernel_rfl) vc
theorem load_pas {h:AHeap}{d f u:Nat}{kv pv ov:AVal}{pas:Bool}{ty:Option (TypeId×Nat)}(e:h.get d=some (dRowV d f u kv pv pas ov ty)):aload (AEnv.D env) 4 ⟨d,0,0,3,6⟩ h=some (.bool pas):=by
  have hD:(AEnv.D env 4).map (fun d=>d.kind.isAgg)=some false:=by kernel_rfl
  obtain⟨x,h1,h2⟩:=Option.map_eq_some_iff.1 hD
  unfold aload
  rw [h1,e]
  simp [ABlk.elem?,ABlk.lim,loadElem,h2,ABlk.made]
theorem load_kept {h:AHeap}{d f u:Nat}{kv pv ov:AVal}{pas:Bool}{ty:Option (TypeId×Nat)}(e:h.get d=some (dRowV d f u kv pv pas ov ty)):aload (AEnv.D env) 34 ⟨d,0,0,1,6⟩ h=some kv:=by
  have hD:(AEnv.D env 34).map (fun d=>d.kind.isAgg)=some false:=by kernel_rfl
  obtain⟨x,h1,h2⟩:=Option.map_eq_some_iff.1 hD
  unfold aload
  rw [h1,e]
  simp [ABlk.elem?,ABlk.lim,loadElem,h2,ABlk.made]
theorem load_chars {h:AHeap}{d f u:Nat}{kv pv ov:AVal}{pas:Bool}{ty:Option (TypeId×Nat)}(e:h.get d=some (dRowV d f u kv pv pas ov ty)):aload (AEnv.D env) 64 ⟨d,0,0,4,6⟩ h=some (.ptr (some ⟨u,0,0,0,5⟩)):=by
  have hD:(AEnv.D env 64).map (fun d=>d.kind.isAgg)=some false:=by kernel_rfl
  obtain⟨x,h1,h2⟩:=Option.map_eq_some_iff.1 hD
  unfold aload
  rw [h1,e]
  simp [ABlk.elem?,ABlk.lim,loadElem,h2,ABlk.made]
theorem kat_text {H:AHeap}{d k:Nat}{v:AVal}{ks:KS}{l:Bytes}(hk:KAt H d k v ks l)(hne:l≠ []): ∃ a,v= .slice (some a) l.length l.length∧elemsOf 1 (.slice (some a) l.length l.length) H=some (bytesA l):=by
  cases ks with
  | nil=>exact absurd hk.2.1 hne
  | one =>
    obtain⟨_,rfl,hg,rfl⟩:=hk
    refine⟨_,rfl,?_⟩
    simp only [elemsOf,if_true,hg]
    rfl
  | grown j =>
    obtain⟨_,ver,m,f,rfl,hg⟩:=hk
    refine⟨_,rfl,?_⟩
    have hn:l.length≠0:=fun h=>hne (List.length_eq_zero_iff.1 h)
    simp only [elemsOf,if_true,hg]
    rw [if_neg hn,if_pos ⟨by simp [ABlk.lim,bytesA],by simp [bytesA]⟩]
    simp only [bytesA,List.map_append]
    rw [List.drop_left' (by simp),List.take_of_length_le (by simp)]
theorem conv_text {F:Facts}{nid k n c:Nat}{H:AHeap}{a:AAddr}{l:Bytes}(hf:getF F (.tmp k)= .slice (some a) n c)(hel:elemsOf 1 (.slice (some a) n c) H=some (bytesA l)):xop env nid (getF F) H (Op.convert 34 9 (Operand.tmp k))=some (.str l,H):=by
  have h1:(AEnv.D env 34).map (fun d=>d.kind)=some (.slice 5):=by kernel_rfl
  have h2:(AEnv.D env 9).map (fun d=>d.kind)=some .string:=by kernel_rfl
  have h3:(AEnv.D env 5).map (fun d=>d.kind)=some (.int .u8):=by kernel_rfl
  obtain⟨x1,d1,k1⟩:=Option.map_eq_some_iff.1 h1
  obtain⟨x2,d2,k2⟩:=Option.map_eq_some_iff.1 h2
  obtain⟨x3,d3,k3⟩:=Option.map_eq_some_iff.1 h3
  simp only [xop,hf,aconvX,d1,d2,k1,k2,d3,k3,hel,bytesOf_bytesA,Option.map_some]
theorem gat_end {H H2:AHeap}{d:Nat}{I:Ids}{f:Nat}{pas:Bool}{ks:KS}{kept hold paste:Bytes}{es:List Ev}{k:Nat}(g:GAt H d I f pas ks kept hold paste es)(hd:I.u≠d)(hu: ∃ i0 i1 i2 i3 ty,H2.get I.u=some (uRowH [] i0 i1 i2 i3 ty))(hg: ∀ j,j<H.next+k→j≠I.u→H2.get j=H.get j)(hn:H.next+k≤H2.next)(nk:I.k≠d→I.k≠I.u)(np:I.p≠d→I.p≠I.u)(no:I.o≠d→I.o≠I.u):GAt H2 d I f pas ks kept [] paste es:=by
  obtain⟨kv,pv,ov,ty,e,hk,hp,ho⟩:=g.ex
  have hl:=g.lt
  refine⟨⟨kv,pv,ov,ty,?_,hk.keep fun h=>hg _ (by omega) (nk h),hp.keep fun h=>hg _ (by omega) (np h),ho.keep fun h=>hg _ (by omega) (no h)⟩,hu,by omega,g.ne⟩
  rw [hg d (by omega) (Ne.symm hd)];exact e
theorem GAt.apart {H:AHeap}{d:Nat}{I:Ids}{f:Nat}{pas:Bool}{ks:KS}{kept hold paste:Bytes}{es:List Ev}(g:GAt H d I f pas ks kept hold paste es):I.u≠d∧(I.k≠d→I.k≠I.u)∧(I.p≠d→I.p≠I.u)∧(I.o≠d→I.o≠I.u):=by
  obtain⟨kv,pv,ov,ty,e,hk,hp,ho⟩:=g.ex
  obtain⟨j0,j1,j2,j3,uty,hu⟩:=g.us
  refine⟨fun h=> ?_,fun h1 h=> ?_,fun h1 h=> ?_,fun h1 h=> ?_⟩
  · rw [h,e]at hu;simp [ABlk.made]at hu
  · cases ks with
    | nil=>exact h1 hk.2.2
    | one=>have:=hk.2.2.1;rw [h,hu]at this;simp [ABlk.made]at this
    | grown junk=>obtain⟨_,_,_,_,_,this⟩:=hk;rw [h,hu]at this;simp [ABlk.made]at this
  · rcases hp with ⟨_,_,hp⟩ | ⟨_,_,_,_,_,_,this⟩
    · exact h1 hp
    · rw [h,hu]at this;simp [ABlk.made]at this
  · rcases ho with ⟨_,_,hp⟩ | ⟨_,_,_,_,_,_,this⟩
    · exact h1 hp
    · rw [h,hu]at this;simp [ABlk.made]at this
theorem GAt.next {h:AHeap}{d:Nat}{I:Ids}{f:Nat}{pas:Bool}{ks:KS}{kept hold paste:Bytes}{es:List Ev}{k:Nat}(g:GAt h d I f pas ks kept hold paste es):GAt ⟨h.next+k,h.blks⟩ d I f pas ks kept hold paste es:=by
  refine⟨g.ex,g.us,?_,g.ne⟩
  have:=g.lt
  show d<h.next+k∧I.u<h.next+k∧I.k<h.next+k∧I.p<h.next+k∧I.o<h.next+k
  omega
structure EvO(H:AHeap)(d:Nat)(I I':Ids)(o:Nat):Prop where
  off:Off o d I'
  of:o=I.u∨o=I.k∨o=I.p∨o=I.o∨H.next≤o
theorem take_out {H2:AHeap} {d:Nat} {I2:Ids} {s:DS} {es:List Ev} {f2:Nat} {kv2 pv2 ov2:AVal} {pas2:Bool} {ty2:Option (TypeId×Nat)} {a b:Nat} (g2:DAt H2 d I2 s es) (ed2:H2.get d=some (dRowV d f2 I2.u kv2 pv2 pas2 ov2 ty2)) (ho2:OAt H2 d I2.o ov2 es) :
    ∀ (H3:AHeap),((⟨H2.next+a,H2.blks⟩:AHeap).set d (dRowV d f2 I2.u kv2 pv2 pas2 (.slice none 0 0) ty2))=H3→EvL ⟨H3.next+b,H3.blks⟩ ov2 es I2.o∧(es≠ []→Off I2.o d ⟨I2.u,I2.k,I2.p,d⟩):=by
  intro H3 hH3
  have hn3:H3.next=H2.next+a:=by rw [← hH3];rfl
  rcases ho2 with ⟨h1,h2,h3⟩ | ⟨h1,h2,ver,mm,ff,h3,h4⟩
  · exact⟨.inl ⟨h1,h2⟩,fun h=>absurd h2 h⟩
  · have lt2:=(by obtain⟨ks,gg,_⟩:=g2;exact gg.lt:d<H2.next∧I2.u<H2.next∧I2.k<H2.next∧I2.p<H2.next∧I2.o<H2.next)
    have hget:(⟨H3.next+b,H3.blks⟩:AHeap).get I2.o=some (gRowB (es.map evA) 6 ver mm ff evTy):=by
      rw [← h4]
      show H3.get I2.o=H2.get I2.o
      rw [← hH3,AHeap.get_set_ne _ _ (Ne.symm h1)];rfl
    have hoff:Off I2.o d ⟨I2.u,I2.k,I2.p,d⟩:=by
      obtain⟨ks,gg,_⟩:=g2
      obtain⟨kv',pv',ov',ty',e',hk',hp',ho'⟩:=gg.ex
      obtain⟨j0,j1,j2,j3,uty,hu⟩:=gg.us
      refine⟨h1,fun h=> ?_,fun h=> ?_,fun h=> ?_,h1⟩
      · have h:I2.o=I2.u:=h
        rw [h,hu]at h4
        simp [ABlk.made]at h4
      · have h:I2.o=I2.k:=h
        cases ks with
        | nil=>exact h1 (by rw [h];exact hk'.2.2)
        | one=>have:=hk'.2.2.1;rw [← h,h4]at this;simp [ABlk.made]at this
        | grown junk=>obtain⟨_,_,_,_,_,this⟩:=hk';rw [← h,h4]at this;simp at this
      · have h:I2.o=I2.p:=h
        rcases hp' with ⟨_,_,hp'⟩ | ⟨_,_,_,_,_,_,this⟩
        · exact h1 (by rw [h];exact hp')
        · rw [← h,h4]at this;simp at this
    exact⟨.inr ⟨h2,by show I2.o<H3.next+b;omega,ver,mm,ff,h3,hget⟩,fun _=>hoff⟩
theorem flush_does {H:AHeap}{d:Nat}{I:Ids}{s:DS}(g:DAt H d I s [])(hG:Keys.Good s)(hkl:s.kept.length<2^40) :
    ∃ H' v I' o',FDoes Tryz.prog cnd 27 [.ptr (some ⟨d,0,0,0,6⟩)] H v H'∧DAt H' d I' (flush s).1 []∧Fr H H' d I I'∧EvL H' v (flush s).2 o'∧((flush s).2≠ []→EvO H d I I' o'):=by
  have hbare: ∀ v h',v=AVal.slice none 0 0∧h'=⟨H.next+18,H.blks⟩→flush s=(s,[])→FDoes Tryz.prog cnd 27 [.ptr (some ⟨d,0,0,0,6⟩)] H v h' →
      ∃ H' v I' o',FDoes Tryz.prog cnd 27 [.ptr (some ⟨d,0,0,0,6⟩)] H v H'∧DAt H' d I' (flush s).1 []∧Fr H H' d I I'∧EvL H' v (flush s).2 o'∧((flush s).2≠ []→EvO H d I I' o'):=by
    rintro v h' ⟨rfl,rfl⟩ hf hd
    refine⟨_,_,I,0,hd,by rw [hf];exact nextD g,⟨by show H.next≤H.next+18;omega,fun j _ _ _ _ _ _=>rfl,fun x hx=>by omega⟩,.inl ⟨rfl,by rw [hf]⟩,fun h=>absurd (by rw [hf]) h⟩
  obtain⟨ks,gg,hs⟩:=id g
  obtain⟨kv,pv,ov,ty,e,hk,hp,ho⟩:=gg.ex
  by_cases hpas:s.nx= .pasted
  · have hl:=load_pas (h:=⟨H.next+17,H.blks⟩) e
    rw [decide_eq_true hpas]at hl
    obtain⟨v,h',hd,hq⟩:=flA_vc H d (fun v h'=>v=AVal.slice none 0 0∧h'=⟨H.next+18,H.blks⟩) (bif_ble (Nat.le_refl _) (bif_ble (by omega) ⟨hl,bif_ble (by omega) (by rw [Nat.ble_eq.mpr (by omega)];exact⟨rfl,rfl⟩)⟩))
    exact hbare v h' hq (by unfold flush;rw [if_pos (.inl hpas)]) hd
  have hl0:=load_pas (h:=⟨H.next+17,H.blks⟩) e
  rw [decide_eq_false hpas]at hl0
  have hk0:=load_kept (h:=⟨H.next+17,H.blks⟩) e
  by_cases hke:s.kept= []
  · obtain⟨ko,hv⟩:=kat_slice hk
    rw [hv,hke]at hk0
    obtain⟨v,h',hd,hq⟩:=flB_vc H d ko (fun v h'=>v=AVal.slice none 0 0∧h'=⟨H.next+18,H.blks⟩) (bif_ble (Nat.le_refl _) (bif_ble (by omega) ⟨hl0,hk0,bif_ble (by omega) (by rw [Nat.ble_eq.mpr (by omega)];exact⟨rfl,rfl⟩)⟩))
    exact hbare v h' hq (by unfold flush;rw [if_pos (.inr hke)]) hd
  obtain⟨kn,hkn⟩: ∃ kn,s.kept.length=kn+1:=⟨s.kept.length-1,by have:s.kept.length≠0:=fun h=>hke (List.length_eq_zero_iff.1 h);omega⟩
  obtain⟨f,kv0,pv0,pas0,ov0,ty0,ed,ho0,hud,hcl⟩:=g.clear
  obtain⟨g1,fr1⟩:=hcl 21
  generalize hH1:((⟨H.next+21,H.blks⟩:AHeap).set d (dRowV d f I.u kv0 pv0 pas0 (.slice none 0 0) ty0))=H1 at g1 fr1
  have hst:astore (AEnv.D env) 56 ⟨d,0,0,5,6⟩ (.slice none 0 0) ⟨H.next+21,H.blks⟩=some H1:=by rw [← hH1];exact store_out ed
  have hn1:H1.next=H.next+21:=by rw [← hH1];rfl
  obtain⟨ks1,gg1,hs1⟩:=id g1
  obtain⟨kv1,pv1,ov1,ty1,e1,hk1,hp1,ho1⟩:=gg1.ex
  obtain⟨j0,j1,j2,j3,uty,hu1⟩:=gg1.us
  have ap:=gg1.apart
  have lt1:=gg1.lt
  have hlc:=load_chars (h:=⟨H1.next+5,H1.blks⟩) e1
  obtain⟨H2,i0,i1,i2,i3,hend,hu2,hg2,hn2⟩:=end_does (H:=⟨H1.next+5,H1.blks⟩) (u:=I.u) (by have:=lt1.2.1;show I.u<H1.next+5;exact Nat.lt_of_lt_of_le this (by omega)) hu1
  have hn2:H1.next+5≤H2.next:=hn2
  have gg2:GAt H2 d ⟨I.u,I.k,I.p,d⟩ (fnOf s.nx) (decide (s.nx= .pasted)) ks1 s.kept [] s.paste []:=gat_end gg1 ap.1 ⟨_,_,_,_,_,hu2⟩ hg2 hn2 ap.2.1 ap.2.2.1 ap.2.2.2
  obtain⟨kv2,pv2,ov2,ty2,e2,hk2,hp2,ho2⟩:=gg2.ex
  obtain⟨a,hv2,hel⟩:=kat_text hk2 hke
  have hlk:=load_kept (h:=⟨H2.next+6,H2.blks⟩) e2
  obtain⟨ko,hv⟩:=kat_slice hk
  rw [hv,hkn]at hk0
  rw [hv2,hkn]at hlk
  rw [hkn]at hel
  rw [decide_eq_false hpas]at gg2
  have tail: ∀ (m:Nat) (x:Ev),∃ H3 H4 v I' o',FDoes Tryz.prog cnd 58 [.ptr (some ⟨d,0,0,0,6⟩),evA x] ⟨H2.next+m,H2.blks⟩ (.tuple []) H3∧H.next≤H3.next∧aload (AEnv.D env) 56 ⟨d,0,0,5,6⟩ ⟨H3.next+5,H3.blks⟩=some v∧astore (AEnv.D env) 56 ⟨d,0,0,5,6⟩ (.slice none 0 0) ⟨H3.next+9,H3.blks⟩=some H4∧H.next≤H4.next ∧
      DAt ⟨H4.next+2,H4.blks⟩ d I' ⟨.ground,[],[],s.paste⟩ []∧Fr H ⟨H4.next+2,H4.blks⟩ d I I'∧EvL ⟨H4.next+2,H4.blks⟩ v [x] o'∧EvO H d I I' o':=by
    intro m x
    obtain⟨H3,htell,I3,gg3,fr3⟩:=tell_does (gg2.next (k:=m)) x (by simp)
    have g3:DAt H3 d I3 ⟨.ground,[],[],s.paste⟩ [x]:=⟨.nil,gg3,trivial⟩
    have fn3:=fr3.next
    have fn3:H2.next+m≤H3.next:=fn3
    obtain⟨f3,kv3,pv3,pas3,ov3,ty3,ed3,ho3,hud3,hcl3⟩:=g3.clear
    obtain⟨g4,fr4⟩:=hcl3 9
    have out:=fun H4=>take_out (a:=9) (b:=2) g3 ed3 ho3 H4
    generalize hH4:((⟨H3.next+9,H3.blks⟩:AHeap).set d (dRowV d f3 I3.u kv3 pv3 pas3 (.slice none 0 0) ty3))=H4 at g4 fr4
    have hst4:astore (AEnv.D env) 56 ⟨d,0,0,5,6⟩ (.slice none 0 0) ⟨H3.next+9,H3.blks⟩=some H4:=by rw [← hH4];exact store_out ed3
    obtain⟨o1,o2⟩:=out H4 hH4
    have hn4:H4.next=H3.next+9:=by rw [← hH4];rfl
    have fr2:Fr H1 ⟨H2.next+m,H2.blks⟩ d ⟨I.u,I.k,I.p,d⟩ ⟨I.u,I.k,I.p,d⟩:=by
      refine⟨by show H1.next≤H2.next+m;omega,fun j hj n1 n2 n3 n4 n5=> ?_,fun y hy=>by omega⟩
      exact hg2 j (by show j<H1.next+5;omega) n2
    have frA:=fr1.trans (fr2.trans fr3)
    refine⟨H3,H4,ov3,⟨I3.u,I3.k,I3.p,d⟩,I3.o,htell,by omega,load_out ed3,hst4,by omega,nextD g4,nextFr2 (frA.trans fr4),o1,o2 (by simp),?_⟩
    have:=frA.ids I3.o (.inr (.inr (.inr rfl)))
    have hne:=(o2 (by simp)).d
    omega
  have done: ∀ (x:Ev) (H4:AHeap) (v:AVal) (I':Ids) (o':Nat),flush s=(⟨.ground,[],[],s.paste⟩,[x])→FDoes Tryz.prog cnd 27 [.ptr (some ⟨d,0,0,0,6⟩)] H v ⟨H4.next+2,H4.blks⟩→DAt ⟨H4.next+2,H4.blks⟩ d I' ⟨.ground,[],[],s.paste⟩ []→Fr H ⟨H4.next+2,H4.blks⟩ d I I'→EvL ⟨H4.next+2,H4.blks⟩ v [x] o'→EvO H d I I' o' →
      ∃ H' v I' o',FDoes Tryz.prog cnd 27 [.ptr (some ⟨d,0,0,0,6⟩)] H v H'∧DAt H' d I' (flush s).1 []∧Fr H H' d I I'∧EvL H' v (flush s).2 o'∧((flush s).2≠ []→EvO H d I I' o'):=by
    intro x H4 v I' o' hf hd q1 q2 q3 q4
    rw [hf]
    exact⟨_,v,I',o',hd,q1,q2,q3,fun _=>q4⟩
  have hbl: ∀ {a b:Nat} {p:Prop},a≤b→p→_root_.cond (Nat.ble a b) p False:=fun h k=>by rw [Nat.ble_eq.mpr h];exact k
  by_cases c1:s.kept= [27]
  · obtain⟨H3,H4,v,I',o',t1,t2,t3,t4,t5,t6,t7,t8,t9⟩:=tail 12 (EvKey 4)
    obtain⟨v2,h2,hd,rfl,rfl⟩:=flC_vc H H1 H2 H3 H4 d I.u kn 0 ko (some a) s.kept v (fun v2 h2=>v2=v∧h2=⟨H4.next+2,H4.blks⟩) (bif_ble (Nat.le_refl _) (bif_ble (by omega) ⟨hl0,hk0,bif_ble (by omega) ⟨aop_store rfl hst,bif_ble (by omega) ⟨hlc,⟨hend⟩,bif_ble (by omega) ⟨hlk,conv_text rfl hel,bif_ble (by omega) (bif_ble (by omega) ⟨fun _=>bif_ble (by omega) ⟨⟨t1⟩,bif_ble t2 ⟨t3,bif_ble (by omega) ⟨aop_store rfl t4,bif_ble t5 (hbl (by omega) ⟨rfl,rfl⟩)⟩⟩⟩,fun h=>absurd c1 h⟩)⟩⟩⟩⟩))
    exact done _ _ _ _ _ (by unfold flush;rw [if_neg (by simp [hpas,hke]),if_pos c1];rfl) hd t6 t7 t8 t9
  by_cases c2:s.kept= [27,91]
  · obtain⟨H3,H4,v,I',o',t1,t2,t3,t4,t5,t6,t7,t8,t9⟩:=tail 17 (EvRune 91 2)
    obtain⟨v2,h2,hd,rfl,rfl⟩:=flC_vc H H1 H2 H3 H4 d I.u kn 91 ko (some a) s.kept v (fun v2 h2=>v2=v∧h2=⟨H4.next+2,H4.blks⟩) (bif_ble (Nat.le_refl _) (bif_ble (by omega) ⟨hl0,hk0,bif_ble (by omega) ⟨aop_store rfl hst,bif_ble (by omega) ⟨hlc,⟨hend⟩,bif_ble (by omega) ⟨hlk,conv_text rfl hel,bif_ble (by omega) (bif_ble (by omega) ⟨fun h=>absurd h c1,fun _=>bif_ble (by omega) ⟨fun _=>bif_ble (by omega) ⟨by rw [c2];kernel_rfl,⟨by decide,by decide⟩,⟨t1⟩,bif_ble t2 ⟨t3,bif_ble (by omega) ⟨aop_store rfl t4,bif_ble t5 (hbl (by omega) ⟨rfl,rfl⟩)⟩⟩⟩,fun h=>absurd c2 h⟩⟩)⟩⟩⟩⟩))
    exact done _ _ _ _ _ (by unfold flush;rw [if_neg (by simp [hpas,hke]),if_neg c1,if_pos (.inl c2),c2];rfl) hd t6 t7 t8 t9
  by_cases c3:s.kept= [27,79]
  · obtain⟨H3,H4,v,I',o',t1,t2,t3,t4,t5,t6,t7,t8,t9⟩:=tail 19 (EvRune 79 2)
    obtain⟨v2,h2,hd,rfl,rfl⟩:=flC_vc H H1 H2 H3 H4 d I.u kn 79 ko (some a) s.kept v (fun v2 h2=>v2=v∧h2=⟨H4.next+2,H4.blks⟩) (bif_ble (Nat.le_refl _) (bif_ble (by omega) ⟨hl0,hk0,bif_ble (by omega) ⟨aop_store rfl hst,bif_ble (by omega) ⟨hlc,⟨hend⟩,bif_ble (by omega) ⟨hlk,conv_text rfl hel,bif_ble (by omega) (bif_ble (by omega) ⟨fun h=>absurd h c1,fun _=>bif_ble (by omega) ⟨fun h=>absurd h c2,fun _=>bif_ble (by omega) ⟨fun _=>bif_ble (by omega) ⟨by rw [c3];kernel_rfl,⟨by decide,by decide⟩,⟨t1⟩,bif_ble t2 ⟨t3,bif_ble (by omega) ⟨aop_store rfl t4,bif_ble t5 (hbl (by omega) ⟨rfl,rfl⟩)⟩⟩⟩,fun h=>absurd c3 h⟩⟩⟩)⟩⟩⟩⟩))
    exact done _ _ _ _ _ (by unfold flush;rw [if_neg (by simp [hpas,hke]),if_neg c1,if_pos (.inr c3),c3];rfl) hd t6 t7 t8 t9
  · obtain⟨H3,H4,v,I',o',t1,t2,t3,t4,t5,t6,t7,t8,t9⟩:=tail 17 (EvBad s.kept)
    obtain⟨v2,h2,hd,rfl,rfl⟩:=flC_vc H H1 H2 H3 H4 d I.u kn 0 ko (some a) s.kept v (fun v2 h2=>v2=v∧h2=⟨H4.next+2,H4.blks⟩) (bif_ble (Nat.le_refl _) (bif_ble (by omega) ⟨hl0,hk0,bif_ble (by omega) ⟨aop_store rfl hst,bif_ble (by omega) ⟨hlc,⟨hend⟩,bif_ble (by omega) ⟨hlk,conv_text rfl hel,bif_ble (by omega) (bif_ble (by omega) ⟨fun h=>absurd h c1,fun _=>bif_ble (by omega) ⟨fun h=>absurd h c2,fun _=>bif_ble (by omega) ⟨fun h=>absurd h c3,fun _=>bif_ble (by omega) ⟨⟨t1⟩,bif_ble t2 ⟨t3,bif_ble (by omega) ⟨aop_store rfl t4,bif_ble t5 (hbl (by omega) ⟨rfl,rfl⟩)⟩⟩⟩⟩⟩⟩)⟩⟩⟩⟩))
    exact done _ _ _ _ _ (by unfold flush;rw [if_neg (by simp [hpas,hke]),if_neg c1,if_neg (by simp [c2,c3])];rfl) hd t6 t7 t8 t9
def allInt(l:List AVal):Bool:=l.all fun x=>match x with | .int _ _=>true | _=>false
def wEnc:Bytes:= [27,91,49,48,53,59,53,117]
noncomputable def encOk(r:Option (AVal×AHeap)):Bool :=
  match r with
  | some (.tuple [.slice (some a) n c,.int .i64 e],h) =>
    decide (e=0) && decide (n=8) && decide (a.fld=0) && decide (a.es=1) && Nat.blt a.id h.next && (match h.get a.id with | some b=>allInt b.elems | none=>false) && (match elemsOf 1 (.slice (some a) n c) h with | some l=>decide (bytesOf l=some wEnc) | none=>false)
  | _=>false
def namOk(r:Option (AVal×AHeap)):Bool :=
  match r with
  | some (.tuple [.agg [.int .i8 a,.int .i32 b,.int .u8 c,.int .i64 d,.int .i64 e,.str t],.int .i64 f],h)=>decide (a=1) && decide (b=120) && decide (c=6) && decide (d=0) && decide (e=0) && decide (t= []) && decide (f=0)
  | _=>false
def wName:Bytes:= [99,116,114,108,43,97,108,116,43,120]
theorem enc_run:encOk (fcall Tryz.prog env 400 21 [.agg [.int .i8 1,.int .i32 105,.int .u8 4,.int .i64 0,.int .i64 0,.str []]] ⟨0,.nil⟩)=true:=by decide+kernel
theorem nam_run:namOk (fcall Tryz.prog env 400 25 [.str wName] ⟨0,.nil⟩)=true:=by decide+kernel
abbrev evW(k:Int)(c:Int)(m:Int):AVal:= .agg [.int .i8 k,.int .i32 c,.int .u8 m,.int .i64 0,.int .i64 0,.str []]
abbrev zv89_0(q:Nat):AVal:=AVal.slice (some ⟨q,0,0,0,1⟩) 8 8
abbrev zv89_1(ko:Nat)(kv:Nat):AVal:=AVal.slice (some ⟨ko,kv,0,0,6⟩) 1 1
abbrev zv89_2(lo:Nat)(lv:Nat):AVal:=AVal.slice (some ⟨lo,lv,0,0,6⟩) 2 2
abbrev zv89_3(bc:Nat)(ba:AAddr):AVal:=AVal.tuple [.slice (some ba) 8 bc,.int .i64 0]
abbrev zv89_4:AVal:=AVal.agg [.int .i8 2,.int .i32 7,.int .u8 5,.int .i64 0,.int .i64 0,.str []]
abbrev zv89_5:AVal:=AVal.agg [.int .i8 1,.int .i32 97,.int .u8 0,.int .i64 0,.int .i64 0,.str []]
abbrev zv89_6:AVal:=AVal.agg [.int .i8 1,.int .i32 105,.int .u8 4,.int .i64 0,.int .i64 0,.str []]
abbrev zv89_7:AVal:=AVal.agg [.int .i8 1,.int .i32 120,.int .u8 6,.int .i64 0,.int .i64 0,.str []]
abbrev zv89_8:AVal:=AVal.tuple [zv89_7,.int .i64 0]
theorem wakes_vc(H H1 H2 H3 H4 H5 H6 H7 H8 H9:AHeap)(d q lo lv ko kv x bc bm:Nat)(ba:AAddr)(K0:AVal→AHeap→Prop)(vc:bif Nat.ble (H.next) (H.next) && true then bif Nat.ble (H.next) (H.next+1) && true then CallT Tryz.prog cnd 14 [] (AHeap.mk (H.next+3) (H.2)) (.ptr (some ⟨d,0,0,0,6⟩)) H1∧bif Nat.ble (H.next) (H1.next) && true then bif Nat.ble (H.next) (H1.next+2) && true then aop env noCall (H1.next+3) (getF [(14,.ptr (some ⟨d,0,0,0,6⟩)),(13,.bool false),(12,.ptr (some ⟨d,0,0,0,6⟩)),(1,.ptr (some ⟨d,0,0,0,6⟩)),(11,.ptr (some ⟨d,0,0,0,6⟩)),(0,.bool false)]) (AHeap.mk (H1.next+7) (H1.2)) (Op.buildSlice 34 8 {toList:= [(0,Operand.const (Value.int IntKind.u8 (97))),(1,Operand.const (Value.int IntKind.u8 (27))),(2,Operand.const (Value.int IntKind.u8 (91))),(3,Operand.const (Value.int IntKind.u8 (49))),(4,Operand.const (Value.int IntKind.u8 (59))),(5,Operand.const (Value.int IntKind.u8 (54))),(6,Operand.const (Value.int IntKind.u8 (67))),(7,Operand.const (Value.int IntKind.u8 (27)))]})=some ((zv89_0 q),H2)∧xop env (H1.next+4) (getF [(15,(zv89_0 q)),(14,.ptr (some ⟨d,0,0,0,6⟩)),(13,.bool false),(12,.ptr (some ⟨d,0,0,0,6⟩)),(1,.ptr (some ⟨d,0,0,0,6⟩)),(11,.ptr (some ⟨d,0,0,0,6⟩)),(0,.bool false)]) H2 (Op.convert 34 34 (Operand.tmp 15))=some ((zv89_0 q),H2)∧CallT Tryz.prog cnd 26 [.ptr (some ⟨d,0,0,0,6⟩),(zv89_0 q)] H2 ((zv89_2 lo lv)) H3∧bif Nat.ble (H.next) (H3.next) && true then CallT Tryz.prog cnd 16 [.ptr (some ⟨d,0,0,0,6⟩)] (AHeap.mk (H3.next+3) (H3.2)) (.int .i64 1) H4∧bif Nat.ble (H.next) (H4.next) && true then CallT Tryz.prog cnd 27 [.ptr (some ⟨d,0,0,0,6⟩)] (AHeap.mk (H4.next+3) (H4.2)) ((zv89_1 ko kv)) H5∧bif Nat.ble (H.next) (H5.next) && true then CallT Tryz.prog cnd 21 [zv89_6] (AHeap.mk (H5.next+7) (H5.2)) ((zv89_3 bc ba)) H6∧bif Nat.ble (H.next) (H6.next) && true then CallT Tryz.prog cnd 25 [.str [99,116,114,108,43,97,108,116,43,120]] (AHeap.mk (H6.next+7) (H6.2)) (zv89_8) H7∧aop env noCall (H6.next+4) (getF [(30,.int .i64 0),(29,zv89_7),(27,zv89_8),(28,zv89_8),(6,.int .i64 0),(5,.slice (some ba) 8 bc),(26,.int .i64 0),(25,.slice (some ba) 8 bc),(22,(zv89_3 bc ba)),(24,(zv89_3 bc ba)),(23,zv89_6),(4,(zv89_1 ko kv)),(21,(zv89_1 ko kv)),(20,.ptr (some ⟨d,0,0,0,6⟩)),(3,.int .i64 1),(19,.int .i64 1),(18,.ptr (some ⟨d,0,0,0,6⟩)),(2,(zv89_2 lo lv)),(17,(zv89_2 lo lv)),(16,(zv89_0 q)),(15,(zv89_0 q)),(14,.ptr (some ⟨d,0,0,0,6⟩)),(13,.bool false),(12,.ptr (some ⟨d,0,0,0,6⟩)),(1,.ptr (some ⟨d,0,0,0,6⟩)),(11,.ptr (some ⟨d,0,0,0,6⟩)),(0,.bool false)]) H7 (Op.alloc 42)=some (AVal.ptr (some ⟨x,0,0,0,6⟩),H8)∧aop env noCall (H6.next+5) (getF [(7,.ptr (some ⟨x,0,0,0,6⟩)),(30,.int .i64 0),(29,zv89_7),(27,zv89_8),(28,zv89_8),(6,.int .i64 0),(5,.slice (some ba) 8 bc),(26,.int .i64 0),(25,.slice (some ba) 8 bc),(22,(zv89_3 bc ba)),(24,(zv89_3 bc ba)),(23,zv89_6),(4,(zv89_1 ko kv)),(21,(zv89_1 ko kv)),(20,.ptr (some ⟨d,0,0,0,6⟩)),(3,.int .i64 1),(19,.int .i64 1),(18,.ptr (some ⟨d,0,0,0,6⟩)),(2,(zv89_2 lo lv)),(17,(zv89_2 lo lv)),(16,(zv89_0 q)),(15,(zv89_0 q)),(14,.ptr (some ⟨d,0,0,0,6⟩)),(13,.bool false),(12,.ptr (some ⟨d,0,0,0,6⟩)),(1,.ptr (some ⟨d,0,0,0,6⟩)),(11,.ptr (some ⟨d,0,0,0,6⟩)),(0,.bool false)]) H8 (Op.store 42 (Operand.tmp 7) (Operand.tmp 29))=some (AVal.tuple [],H9)∧bif Nat.ble (H.next) (H9.next) && true then aload env.D 42 ⟨lo,lv,0,0,6⟩ (AHeap.mk (H9.next+18) (H9.2))=some (zv89_5)∧aload env.D 42 ⟨lo,lv,1,0,6⟩ (AHeap.mk (H9.next+18) (H9.2))=some (zv89_4)∧bif Nat.ble (H.next) (H9.next+18) && true then aload env.D 42 ⟨ko,kv,0,0,6⟩ (AHeap.mk (H9.next+33) (H9.2))=some (zv33_0)∧bif Nat.ble (H.next) (H9.next+33) && true then xop env (H9.next+43) (getF [(71,.slice (some ba) 8 bc),(70,.bool true),(69,.bool true),(68,.bool true),(67,.int .i64 0),(66,.bool true),(65,.bool true),(64,.bool true),(63,.bool true),(62,.bool true),(10,.bool true),(61,.bool true),(60,.bool true),(59,zv33_0),(58,zv33_0),(57,.ptr (some ⟨ko,kv,0,0,6⟩)),(56,(zv89_1 ko kv)),(55,.bool true),(54,.bool true),(53,.bool true),(52,.int .i64 1),(51,(zv89_1 ko kv)),(50,.bool true),(49,.bool true),(48,.int .i64 1),(9,.bool true),(47,.bool true),(46,.bool true),(45,zv89_4),(44,zv89_4),(43,.ptr (some ⟨lo,lv,1,0,6⟩)),(42,(zv89_2 lo lv)),(41,.bool true),(40,.bool true),(39,.bool true),(38,zv89_5),(37,zv89_5),(36,.ptr (some ⟨lo,lv,0,0,6⟩)),(35,(zv89_2 lo lv)),(34,.bool true),(33,.bool true),(32,.int .i64 2),(31,(zv89_2 lo lv)),(8,.int .i64 0),(7,.ptr (some ⟨x,0,0,0,6⟩)),(30,.int .i64 0),(29,zv89_7),(27,zv89_8),(28,zv89_8),(6,.int .i64 0),(5,.slice (some ba) 8 bc),(26,.int .i64 0),(25,.slice (some ba) 8 bc),(22,(zv89_3 bc ba)),(24,(zv89_3 bc ba)),(23,zv89_6),(4,(zv89_1 ko kv)),(21,(zv89_1 ko kv)),(20,.ptr (some ⟨d,0,0,0,6⟩)),(3,.int .i64 1),(19,.int .i64 1),(18,.ptr (some ⟨d,0,0,0,6⟩)),(2,(zv89_2 lo lv)),(17,(zv89_2 lo lv)),(16,(zv89_0 q)),(15,(zv89_0 q)),(14,.ptr (some ⟨d,0,0,0,6⟩)),(13,.bool false),(12,.ptr (some ⟨d,0,0,0,6⟩)),(1,.ptr (some ⟨d,0,0,0,6⟩)),(11,.ptr (some ⟨d,0,0,0,6⟩)),(0,.bool false)]) (AHeap.mk (H9.next+56) (H9.2)) (Op.convert 34 9 (Operand.tmp 71))=some (AVal.str [27,91,49,48,53,59,53,117],(AHeap.mk (H9.next+56) (H9.2)))∧aload env.D 42 ⟨x,0,0,0,6⟩ (AHeap.mk (H9.next+56) (H9.2))=some (zv89_7)∧bif Nat.ble (H.next) (H9.next+56)then K0 (.bool true) (AHeap.mk (H9.next+56) (H9.2))else False else False else False else False else False else False else False else False else False else False else False else False) :
    ∃ v h1,FDoes Tryz.prog cnd 19 [] H v h1∧K0 v h1 :=
  tcall_does env_ok mixed specsL_ok (hs:= .hint (.act 1000 (.ptr (some ⟨d,0,0,0,6⟩)) fun x=>H1) (.hint (.act 4001 ((zv89_0 q)) fun x=>H2) (.hint (.cv 4002 ((zv89_0 q)) fun h=>h) (.hint (.act 4003 ((zv89_2 lo lv)) fun x=>H3) (.hint (.act 5001 (.int .i64 1) fun x=>H4) (.hint (.act 6001 ((zv89_1 ko kv)) fun x=>H5) (.hint (.act 7001 (.tuple [.slice (some ba) 8 bc,.int .i64 0]) fun x=>H6) (.hint (.act 8000 (.tuple [evW 1 120 6,.int .i64 0]) fun x=>H7) (.hint (.act 8004 (.ptr (some ⟨x,0,0,0,6⟩)) fun x=>H8) (.hint (.act 8005 (.tuple []) fun x=>H9) (.hint (.val 9006 (evW 1 97 0)) (.hint (.val 9013 (evW 2 7 5)) (.hint (.val 10010 (evW 2 4 0)) (.hint (.cv 11010 (.str wEnc) fun h=>h) (.hint (.val 11018 (evW 1 120 6)) .nil))))))))))))))) (by kernel_rfl) vc
abbrev zv90_0(av:Nat)(n:Nat):AVal:=AVal.slice (some ⟨0,av,0,0,6⟩) n n
abbrev zv90_1(bv:Nat)(n:Nat):AVal:=AVal.slice (some ⟨1,bv,0,0,6⟩) n n
abbrev zv90_2(av:Nat)(bv:Nat)(n:Nat)(j:Nat)(e1:AVal)(e2:AVal):Facts:= [(24,e2),(23,.ptr (some ⟨1,bv,0+Int.toNat (j:Int),0,6⟩)),(22,.int .i64 (j:Int)),(21,(zv90_1 bv n)),(20,e1),(19,.ptr (some ⟨0,av,0+Int.toNat (j:Int),0,6⟩)),(18,.int .i64 (j:Int)),(17,(zv90_0 av n)),(14,.bool true),(13,.int .i64 (n:Int)),(12,(zv90_0 av n)),(11,.int .i64 (j:Int)),(0,(zv90_0 av n)),(1,(zv90_1 bv n)),(5,.int .i64 (j:Int))]
theorem sameT_vp(A B:ABlk)(av bv n j:Nat)(e1 e2:AVal)(K0:AExit→Facts→AHeap→Prop)(vc:((j:Int)<(n:Int)→(0≤(j:Int)∧(j:Int)<(n:Int))∧aload env.D 42 ⟨0,av,0+Int.toNat (j:Int),0,6⟩ (AHeap.rowsT 15 [(0,A),(1,B)])=some e1∧(0≤(j:Int)∧(j:Int)<(n:Int))∧aload env.D 42 ⟨1,bv,0+Int.toNat (j:Int),0,6⟩ (AHeap.rowsT 15 [(0,A),(1,B)])=some e2∧abin env.D (AEnv.eqT env) (isLit (Operand.tmp 20) || isLit (Operand.tmp 24)) BinOp.neq 42 (getF (zv90_2 av bv n j e1 e2) (Operand.tmp 20)) (getF (zv90_2 av bv n j e1 e2) (Operand.tmp 24))=some (AVal.bool true)∧K0 .ret [(0,(zv90_0 av n)),(1,(zv90_1 bv n)),(4,.bool false),(5,.int .i64 (j:Int))] (AHeap.rowsT 16 [(0,A),(1,B)]))∧(¬(j:Int)<(n:Int)→K0 (.exit 0) [(0,(zv90_0 av n)),(1,(zv90_1 bv n)),(5,.int .i64 (j:Int))] (AHeap.rowsT 6 [(0,A),(1,B)]))) :
    ∃ e F1 h1,Runs Tryz.prog cnd 2 26 (loopAt Tryz.prog 28 0) [(0,.slice (some ⟨0,av,0,0,6⟩) n n),(1,.slice (some ⟨1,bv,0,0,6⟩) n n),(5,.int .i64 j)] (AHeap.rows 2 [(0,A),(1,B)]) e F1 h1∧K0 e F1 h1 :=
  tpath_runs env_ok mixed specsL_ok (hs:= .br 4003 (hg 6002 (.hint (.val 6003 e1) (hg 6006 (.hint (.val 6007 e2) (.hint (.val 6008 (.bool true)) .nil))))) .nil) (keep:= [0,1,4,5]) (by kernel_rfl) vc
theorem sameF_vp(A B:ABlk)(av bv n j:Nat)(e1 e2:AVal)(K0:AExit→Facts→AHeap→Prop)(vc:((j:Int)<(n:Int)→(0≤(j:Int)∧(j:Int)<(n:Int))∧aload env.D 42 ⟨0,av,0+Int.toNat (j:Int),0,6⟩ (AHeap.rowsT 15 [(0,A),(1,B)])=some e1∧(0≤(j:Int)∧(j:Int)<(n:Int))∧aload env.D 42 ⟨1,bv,0+Int.toNat (j:Int),0,6⟩ (AHeap.rowsT 15 [(0,A),(1,B)])=some e2∧abin env.D (AEnv.eqT env) (isLit (Operand.tmp 20) || isLit (Operand.tmp 24)) BinOp.neq 42 (getF (zv90_2 av bv n j e1 e2) (Operand.tmp 20)) (getF (zv90_2 av bv n j e1 e2) (Operand.tmp 24))=some (AVal.bool false)∧(-9223372036854775808≤(j:Int)+1∧(j:Int)+1≤9223372036854775807)∧K0 .normal [(0,(zv90_0 av n)),(1,(zv90_1 bv n)),(5,.int .i64 ((j:Int)+1))] (AHeap.rowsT 18 [(0,A),(1,B)]))∧(¬(j:Int)<(n:Int)→K0 (.exit 0) [(0,(zv90_0 av n)),(1,(zv90_1 bv n)),(5,.int .i64 (j:Int))] (AHeap.rowsT 6 [(0,A),(1,B)]))) :
    ∃ e F1 h1,Runs Tryz.prog cnd 2 26 (loopAt Tryz.prog 28 0) [(0,.slice (some ⟨0,av,0,0,6⟩) n n),(1,.slice (some ⟨1,bv,0,0,6⟩) n n),(5,.int .i64 j)] (AHeap.rows 2 [(0,A),(1,B)]) e F1 h1∧K0 e F1 h1 :=
  tpath_runs env_ok mixed specsL_ok (hs:= .br 4003 (hg 6002 (.hint (.val 6003 e1) (hg 6006 (.hint (.val 6007 e2) (.hint (.val 6008 (.bool false)) (hg 5001 .nil)))))) .nil) (keep:= [0,1,4,5]) (by kernel_rfl) vc
theorem same0_vp(H:AHeap)(B:Nat)(K0:AExit→Facts→AHeap→Prop)(vc:bif Nat.ble B (H.next) && true then K0 (.exit 0) [(0,.slice none 0 0),(1,.slice none 0 0),(5,.int .i64 0)] (AHeap.mk (H.next+4) (AHeap.blks H))else False) :
    ∃ e F1 h1,Runs Tryz.prog cnd B 26 (loopAt Tryz.prog 28 0) [(0,.slice none 0 0),(1,.slice none 0 0),(5,.int .i64 0)] H e F1 h1∧K0 e F1 h1 :=
  tpath_runs env_ok mixed specsL_ok (hs:= .nil) (keep:= [0,1,4,5]) (by kernel_rfl) vc
theorem same_vc(A B:ABlk)(av bv n jj:Nat)(K0:AVal→AHeap→Prop)(vc:some (AVal.bool ((n:Int) != (n:Int)))=some (AVal.bool false)∧Runs Tryz.prog cnd 2 26 (Code.loop (loopAt Tryz.prog 28 0)) [(0,(zv90_0 av n)),(1,(zv90_1 bv n)),(5,.int .i64 0)] (AHeap.rowsT 9 [(0,A),(1,B)]) (.exit 0) [(0,(zv90_0 av n)),(1,(zv90_1 bv n)),(5,.int .i64 (jj:Int))] (AHeap.rowsT 6 [(0,A),(1,B)])∧K0 (.bool true) (AHeap.rowsT 7 [(0,A),(1,B)])) :
    ∃ v h1,FDoes Tryz.prog cnd 28 [.slice (some ⟨0,av,0,0,6⟩) n n,.slice (some ⟨1,bv,0,0,6⟩) n n] (AHeap.of [A,B]) v h1∧K0 v h1 :=
  tcall_does env_ok mixed specsL_ok (hs:= .hint (.val 1004 (.bool false)) (.hint (.keep [0,1,5]) (.hint (.loop [(0,(zv90_0 av n)),(1,(zv90_1 bv n)),(5,.int .i64 (jj:Int))] (AHeap.rowsT 6 [(0,A),(1,B)]) (.exit 0)) .nil))) (by kernel_rfl) vc
theorem sameR_vc(A B:ABlk)(av bv n jj:Nat)(K0:AVal→AHeap→Prop)(vc:some (AVal.bool ((n:Int) != (n:Int)))=some (AVal.bool false)∧Runs Tryz.prog cnd 2 26 (Code.loop (loopAt Tryz.prog 28 0)) [(0,(zv90_0 av n)),(1,(zv90_1 bv n)),(5,.int .i64 0)] (AHeap.rowsT 9 [(0,A),(1,B)]) .ret [(0,(zv90_0 av n)),(1,(zv90_1 bv n)),(4,.bool false),(5,.int .i64 (jj:Int))] (AHeap.rowsT 16 [(0,A),(1,B)])∧K0 (.bool false) (AHeap.rowsT 16 [(0,A),(1,B)])) :
    ∃ v h1,FDoes Tryz.prog cnd 28 [.slice (some ⟨0,av,0,0,6⟩) n n,.slice (some ⟨1,bv,0,0,6⟩) n n] (AHeap.of [A,B]) v h1∧K0 v h1 :=
  tcall_does env_ok mixed specsL_ok (hs:= .hint (.val 1004 (.bool false)) (.hint (.keep [0,1,5]) (.hint (.loop [(0,(zv90_0 av n)),(1,(zv90_1 bv n)),(4,.bool false),(5,.int .i64 (jj:Int))] (AHeap.rowsT 16 [(0,A),(1,B)]) .ret) .nil))) (by kernel_rfl) vc
theorem sameZ_vc(H:AHeap)(K0:AVal→AHeap→Prop)(vc:bif Nat.ble (H.next) (H.next) && true then bif Nat.ble (H.next) (H.next+1) && true then bif Nat.ble (H.next) (H.next+6) && true then Runs Tryz.prog cnd (H.next) 26 (Code.loop (loopAt Tryz.prog 28 0)) [(0,.slice none 0 0),(1,.slice none 0 0),(5,.int .i64 0)] (AHeap.mk (H.next+6+1) (AHeap.blks (AHeap.mk (H.next+1+5) (AHeap.blks (AHeap.mk (H.next+1) (AHeap.blks H)))))) (.exit 0) [(0,.slice none 0 0),(1,.slice none 0 0),(5,.int .i64 0)] (AHeap.mk (H.next+11) (AHeap.blks H))∧bif Nat.ble (H.next) (H.next+11) && true then bif Nat.ble (H.next) (H.next+12)then K0 (.bool true) (AHeap.mk (H.next+11+1) (AHeap.blks (AHeap.mk (H.next+11) (H.2))))else False else False else False else False else False) :
    ∃ v h1,FDoes Tryz.prog cnd 28 [.slice none 0 0,.slice none 0 0] H v h1∧K0 v h1 :=
  tcall_does env_ok mixed specsL_ok (hs:= .hint (.keep [0,1,5]) (.hint (.loop [(0,.slice none 0 0),(1,.slice none 0 0),(5,.int .i64 0)] (AHeap.mk (H.next+11) (AHeap.blks H)) (.exit 0)) .nil)) (by kernel_rfl) vc
theorem sameN_vc(H:AHeap)(o1 o2:Option AAddr)(n1 n2 c1 c2:Nat)(K0:AVal→AHeap→Prop)(vc:bif Nat.ble (H.next) (H.next) && true then bif Nat.ble (H.next) (H.next+1) && true then some (AVal.bool ((n1:Int) != (n2:Int)))=some (AVal.bool true)∧bif Nat.ble (H.next) (H.next+6) && true then bif Nat.ble (H.next) (H.next+7)then K0 (.bool false) (AHeap.mk (H.next+6+1) (AHeap.blks (AHeap.mk (H.next+1+5) (AHeap.blks (AHeap.mk (H.next+1) (AHeap.blks H))))))else False else False else False else False) :
    ∃ v h1,FDoes Tryz.prog cnd 28 [.slice o1 n1 c1,.slice o2 n2 c2] H v h1∧K0 v h1 :=
  tcall_does env_ok mixed specsL_ok (hs:= .hint (.val 1004 (.bool true)) .nil) (by kernel_rfl) vc
theorem load_ev {h:AHeap}{o ver m f i:Nat}{es:List Ev}(e:h.get o=some (gRowB (es.map evA) 6 ver m f evTy))(hj:i<es.length):aload (AEnv.D env) 42 ⟨o,ver,i,0,6⟩ h=some (evA es[i]):=by
  have hD:(AEnv.D env 42).map (fun d=>(d.kind.isAgg,d.size))=some (true,6):=by kernel_rfl
  obtain⟨x,h1,h2⟩:=Option.map_eq_some_iff.1 hD
  simp only [Prod.mk.injEq]at h2
  unfold aload
  rw [h1,e]
  have hel:(gRowB (es.map evA) 6 ver m f evTy).elem? ver i=some (evA es[i]):=by
    unfold ABlk.elem?
    rw [if_pos (by simpa [ABlk.lim]using hj)]
    simp [hj]
  simp only [hel]
  simp [loadElem,h2.1,h2.2,evA]
theorem ev_neq {l:Bool}(e f:Ev):abin (AEnv.D env) (AEnv.eqT env) l BinOp.neq 42 (evA e) (evA f)=some (.bool (!decide (e=f))):=by
  obtain⟨a1,a2,a3,a4,a5,a6⟩:=e
  obtain⟨b1,b2,b3,b4,b5,b6⟩:=f
  have k:abin (AEnv.D env) (AEnv.eqT env) l BinOp.neq 42 (evA ⟨a1,a2,a3,a4,a5,a6⟩) (evA ⟨b1,b2,b3,b4,b5,b6⟩)=some (.bool (!((a1 == b1) && ((a2 == b2) && ((a3 == b3) && ((a4 == b4) && ((a5 == b5) && ((a6 == b6) && true)))))))):=by kernel_rfl
  rw [k]
  congr 3
  rw [Bool.eq_iff_iff]
  simp [Ev.mk.injEq]
theorem evs_bare(l:List Ev): ∀ e∈l.map evA,Bare e:=by
  intro e he
  obtain⟨b,_,rfl⟩:=List.mem_map.1 he
  exact evA_bare b
abbrev sF(av bv n j:Nat):Facts:= [(0,.slice (some ⟨0,av,0,0,6⟩) n n),(1,.slice (some ⟨1,bv,0,0,6⟩) n n),(5,.int .i64 (j:Nat))]
abbrev sR(av bv n j:Nat):Facts:= [(0,.slice (some ⟨0,av,0,0,6⟩) n n),(1,.slice (some ⟨1,bv,0,0,6⟩) n n),(4,.bool false),(5,.int .i64 (j:Nat))]
theorem same_ent {av bv n j K:Nat}{A B:ABlk}(hA:BareB A)(hB:BareB B)(h0:(AHeap.rowsT K [(0,A),(1,B)]).get 0=some A)(h1:(AHeap.rowsT K [(0,A),(1,B)]).get 1=some B):Ent 2 26 (sF av bv n j) (AHeap.rowsT K [(0,A),(1,B)]) (sF av bv n j) (AHeap.rows 2 [(0,A),(1,B)]):=by
  refine Ent.drop (K:=2) (l:= [(0,A),(1,B)]) (by simp [h0,h1]) rfl rfl rfl ?_ ?_
  · exact All.cons (show(0:Nat)∈ [0,1]by simp) (All.cons (show(1:Nat)∈ [0,1]by simp) (All.cons trivial All.nil))
  · exact All.cons (fun e he=>(hA e he).clo _) (All.cons (fun e he=>(hB e he).clo _) All.nil)
theorem same_loop (es fs:List Ev) (av m f bv m2 f2:Nat) (hl:es.length=fs.length) (hn:es.length<2^62): ∀ (k j:Nat),es.length-j≤k→j≤es.length→ ∃ jj,
    (es.drop j=fs.drop j→Loops Tryz.prog cnd 2 26 (loopAt Tryz.prog 28 0) (sF av bv es.length j) (AHeap.rows 2 [(0,gRowB (es.map evA) 6 av m f evTy),(1,gRowB (fs.map evA) 6 bv m2 f2 evTy)]) (.exit 0) (sF av bv es.length jj) (AHeap.rowsT 6 [(0,gRowB (es.map evA) 6 av m f evTy),(1,gRowB (fs.map evA) 6 bv m2 f2 evTy)])) ∧
    (es.drop j≠fs.drop j→Loops Tryz.prog cnd 2 26 (loopAt Tryz.prog 28 0) (sF av bv es.length j) (AHeap.rows 2 [(0,gRowB (es.map evA) 6 av m f evTy),(1,gRowB (fs.map evA) 6 bv m2 f2 evTy)]) .ret (sR av bv es.length jj) (AHeap.rowsT 16 [(0,gRowB (es.map evA) 6 av m f evTy),(1,gRowB (fs.map evA) 6 bv m2 f2 evTy)])):=by
  intro k
  generalize hA:gRowB (es.map evA) 6 av m f evTy=A
  generalize hB:gRowB (fs.map evA) 6 bv m2 f2 evTy=B
  have bA:BareB A:=by rw [← hA];exact evs_bare es
  have bB:BareB B:=by rw [← hB];exact evs_bare fs
  have fin: ∃ jj,(es.drop es.length=fs.drop es.length→Loops Tryz.prog cnd 2 26 (loopAt Tryz.prog 28 0) (sF av bv es.length es.length) (AHeap.rows 2 [(0,A),(1,B)]) (.exit 0) (sF av bv es.length jj) (AHeap.rowsT 6 [(0,A),(1,B)])) ∧
      (es.drop es.length≠fs.drop es.length→Loops Tryz.prog cnd 2 26 (loopAt Tryz.prog 28 0) (sF av bv es.length es.length) (AHeap.rows 2 [(0,A),(1,B)]) .ret (sR av bv es.length jj) (AHeap.rowsT 16 [(0,A),(1,B)])):=by
    refine⟨es.length,fun _=> ?_,fun h=>absurd (by rw [List.drop_length,hl,List.drop_length]) h⟩
    obtain⟨e,F1,h1,hr,rfl,rfl,rfl⟩:=sameT_vp A B av bv es.length es.length .undef .undef (fun e F1 h1=>e= .exit 0∧F1=sF av bv es.length es.length∧h1=AHeap.rowsT 6 [(0,A),(1,B)]) ⟨fun h=>by omega,fun _=>⟨rfl,rfl,rfl⟩⟩
    exact Loops.last (by simp) hr
  induction k with
  | zero =>
    intro j hk hj
    obtain rfl:j=es.length:=by omega
    exact fin
  | succ k ih =>
    intro j hk hj
    by_cases hc:j<es.length
    · have hc2:j<fs.length:=by omega
      have l1:aload (AEnv.D env) 42 ⟨0,av,0+Int.toNat (j:Int),0,6⟩ (AHeap.rowsT 15 [(0,A),(1,B)])=some (evA es[j]):=by
        rw [show 0+Int.toNat (j:Int)=j by simp]
        exact load_ev (m:=m) (f:=f) (by rw [hA];rfl) hc
      have l2:aload (AEnv.D env) 42 ⟨1,bv,0+Int.toNat (j:Int),0,6⟩ (AHeap.rowsT 15 [(0,A),(1,B)])=some (evA fs[j]):=by
        rw [show 0+Int.toNat (j:Int)=j by simp]
        exact load_ev (m:=m2) (f:=f2) (by rw [hB];rfl) hc2
      by_cases he:es[j]=fs[j]
      · obtain⟨e,F1,h1,hr,rfl,rfl,rfl⟩:=sameF_vp A B av bv es.length j (evA es[j]) (evA fs[j]) (fun e F1 h1=>e= .normal∧F1=sF av bv es.length (j+1)∧h1=AHeap.rowsT 18 [(0,A),(1,B)]) ⟨fun _=>⟨⟨by omega,by omega⟩,l1,⟨by omega,by omega⟩,l2,(ev_neq _ _).trans (by rw [decide_eq_true he];rfl),⟨by omega,by omega⟩,rfl,by rw [show((j:Int)+1)=((j+1:Nat):Int)by omega],rfl⟩,fun h=>absurd (by omega) h⟩
        obtain⟨jj,q1,q2⟩:=ih (j+1) (by omega) (by omega)
        have hd:es.drop j=fs.drop j↔es.drop (j+1)=fs.drop (j+1):=by
          rw [List.drop_eq_getElem_cons hc,List.drop_eq_getElem_cons hc2,he]
          exact⟨fun h=>(List.cons.inj h).2,fun h=>by rw [h]⟩
        exact⟨jj,fun h=>Loops.round hr (same_ent bA bB rfl rfl) (q1 (hd.1 h)),fun h=>Loops.round hr (same_ent bA bB rfl rfl) (q2 fun x=>h (hd.2 x))⟩
      · obtain⟨e,F1,h1,hr,rfl,rfl,rfl⟩:=sameT_vp A B av bv es.length j (evA es[j]) (evA fs[j]) (fun e F1 h1=>e= .ret∧F1=sR av bv es.length j∧h1=AHeap.rowsT 16 [(0,A),(1,B)]) ⟨fun _=>⟨⟨by omega,by omega⟩,l1,⟨by omega,by omega⟩,l2,(ev_neq _ _).trans (by rw [decide_eq_false he];rfl),rfl,rfl,rfl⟩,fun h=>absurd (by omega) h⟩
        refine⟨j,fun h=>absurd ?_ he,fun _=>Loops.last (by simp) hr⟩
        rw [List.drop_eq_getElem_cons hc,List.drop_eq_getElem_cons hc2]at h
        exact(List.cons.inj h).1
    · obtain rfl:j=es.length:=by omega
      exact fin
theorem same_does {H:AHeap} {v1 v2:AVal} {es fs:List Ev} {o1 o2:Nat} (h1:EvL H v1 es o1) (h2:EvL H v2 fs o2) (hne:es≠ []→fs≠ []→o1≠o2) (hn:es.length<2^62) :
    ∃ H',FDoes Tryz.prog cnd 28 [v1,v2] H (.bool (decide (es=fs))) H'∧H.next≤H'.next∧ ∀ j,H'.get j=H.get j:=by
  have hbl: ∀ {a b:Nat} {p:Prop},a≤b→p→_root_.cond (Nat.ble a b) p False:=fun h k=>by rw [Nat.ble_eq.mpr h];exact k
  have hsl: ∀ {v:AVal} {l:List Ev} {o:Nat},EvL H v l o→ ∃ a,v= .slice a l.length l.length:=by
    intro v l o h
    rcases h with ⟨rfl,rfl⟩ | ⟨_,_,ver,m,f,rfl,_⟩
    · exact⟨none,rfl⟩
    · exact⟨_,rfl⟩
  by_cases hl:es.length=fs.length
  · rcases h1 with ⟨rfl,rfl⟩ | ⟨n1,lt1,ver,m,f,rfl,g1⟩
    · obtain rfl:fs= []:=List.length_eq_zero_iff.1 hl.symm
      rcases h2 with ⟨rfl,_⟩ | ⟨hx,_⟩
      · obtain⟨e,F1,h3,hr,rfl,rfl,rfl⟩:=same0_vp ⟨H.next+7,H.blks⟩ H.next (fun e F1 h1=>e= .exit 0∧F1= [(0,AVal.slice none 0 0),(1,AVal.slice none 0 0),(5,AVal.int IntKind.i64 0)]∧h1=⟨H.next+11,H.blks⟩) (bif_ble (by show H.next≤H.next+7;omega) ⟨rfl,rfl,rfl⟩)
        obtain⟨v,h',hd,rfl,rfl⟩:=sameZ_vc H (fun v h'=>v= .bool true∧h'=⟨H.next+12,H.blks⟩) (bif_ble (Nat.le_refl _) (bif_ble (by omega) (bif_ble (by omega) ⟨Runs.of_loops (Loops.last (by simp) hr),bif_ble (by omega) (hbl (by omega) ⟨rfl,rfl⟩)⟩)))
        exact⟨_,hd,by show H.next≤H.next+12;omega,fun _=>rfl⟩
      · exact absurd rfl hx
    · have n2:fs≠ []:=fun h=>by subst h;exact n1 (List.length_eq_zero_iff.1 hl)
      rcases h2 with ⟨_,hx⟩ | ⟨_,lt2,ver2,m2,f2,rfl,g2⟩
      · exact absurd hx n2
      have hd:=hne n1 n2
      obtain⟨jj,q1,q2⟩:=same_loop es fs ver m f ver2 m2 f2 hl hn es.length 0 (by omega) (by omega)
      rw [List.drop_zero,List.drop_zero]at q1 q2
      have bA:BareB (gRowB (es.map evA) 6 ver m f evTy):=evs_bare es
      have bB:BareB (gRowB (fs.map evA) 6 ver2 m2 f2 evTy):=evs_bare fs
      have up: ∀ {b:Bool} {K:Nat},(AHeap.rowsT K [(0,gRowB (es.map evA) 6 ver m f evTy),(1,gRowB (fs.map evA) 6 ver2 m2 f2 evTy)]).get 0=some (gRowB (es.map evA) 6 ver m f evTy)→(AHeap.rowsT K [(0,gRowB (es.map evA) 6 ver m f evTy),(1,gRowB (fs.map evA) 6 ver2 m2 f2 evTy)]).get 1=some (gRowB (fs.map evA) 6 ver2 m2 f2 evTy)→FDoes Tryz.prog cnd 28 [.slice (some ⟨0,ver,0,0,6⟩) es.length es.length,.slice (some ⟨1,ver2,0,0,6⟩) es.length es.length] (AHeap.of [gRowB (es.map evA) 6 ver m f evTy,gRowB (fs.map evA) 6 ver2 m2 f2 evTy]) (.bool b) (AHeap.rowsT K [(0,gRowB (es.map evA) 6 ver m f evTy),(1,gRowB (fs.map evA) 6 ver2 m2 f2 evTy)])→FDoes Tryz.prog cnd 28 [.slice (some ⟨o1,ver,0,0,6⟩) es.length es.length,.slice (some ⟨o2,ver2,0,0,6⟩) es.length es.length] H (.bool b) H:=by
        intro b K e0 e1 hd2
        have:=FDoes.pure (l:= [gRowB (es.map evA) 6 ver m f evTy,gRowB (fs.map evA) 6 ver2 m2 f2 evTy]) hd2 (fun x hx=>by
          rcases List.mem_cons.1 hx with rfl | hx
          · exact bA
          · rw [List.mem_singleton.1 hx];exact bB) (by show [AHeap.get _ 0,AHeap.get _ 1]=_;rw [e0,e1];rfl) (Bare.bool _) (by exact⟨by show 0<2;decide,by show 1<2;decide,trivial⟩) (H:=H) [o1,o2] (by simp [hd]) (by
            intro j hj
            rcases List.mem_cons.1 hj with rfl | hj
            · exact lt1
            · rw [List.mem_singleton.1 hj];exact lt2) (by simp [g1,g2])
        simpa [AVal.ren,AAddr.ren,toBig]using this
      refine⟨H,?_,Nat.le_refl _,fun _=>rfl⟩
      rw [← hl]
      by_cases he:es=fs
      · rw [decide_eq_true he]
        have hL:=(q1 he).pre (same_ent (K:=9) bA bB rfl rfl)
        obtain⟨v,h',hd2,rfl,rfl⟩:=same_vc (gRowB (es.map evA) 6 ver m f evTy) (gRowB (fs.map evA) 6 ver2 m2 f2 evTy) ver ver2 es.length jj (fun v h'=>v= .bool true∧h'=AHeap.rowsT 7 [(0,gRowB (es.map evA) 6 ver m f evTy),(1,gRowB (fs.map evA) 6 ver2 m2 f2 evTy)]) ⟨by simp,Runs.of_loops hL,rfl,rfl⟩
        exact up rfl rfl hd2
      · rw [decide_eq_false he]
        have hL:=(q2 he).pre (same_ent (K:=9) bA bB rfl rfl)
        obtain⟨v,h',hd2,rfl,rfl⟩:=sameR_vc (gRowB (es.map evA) 6 ver m f evTy) (gRowB (fs.map evA) 6 ver2 m2 f2 evTy) ver ver2 es.length jj (fun v h'=>v= .bool false∧h'=AHeap.rowsT 16 [(0,gRowB (es.map evA) 6 ver m f evTy),(1,gRowB (fs.map evA) 6 ver2 m2 f2 evTy)]) ⟨by simp,Runs.of_loops hL,rfl,rfl⟩
        exact up rfl rfl hd2
  · obtain⟨a1,rfl⟩:=hsl h1
    obtain⟨a2,rfl⟩:=hsl h2
    rw [decide_eq_false (fun h=>hl (by rw [h]))]
    obtain⟨v,h',hd,rfl,rfl⟩:=sameN_vc H a1 a2 es.length fs.length es.length fs.length (fun v h'=>v= .bool false∧h'=⟨H.next+7,H.blks⟩) (bif_ble (Nat.le_refl _) (bif_ble (by omega) ⟨by simp;omega,bif_ble (by omega) (hbl (by omega) ⟨rfl,rfl⟩)⟩))
    exact⟨_,hd,by show H.next≤H.next+7;omega,fun _=>rfl⟩
theorem DAt.same {H H2:AHeap}{d:Nat}{I:Ids}{s:DS}{es:List Ev}(g:DAt H d I s es)(hg: ∀ j,j<H.next→H2.get j=H.get j)(hn:H.next≤H2.next):DAt H2 d I s es:=by
  obtain⟨ks,g,hs⟩:=g
  obtain⟨kv,pv,ov,ty,e,hk,hp,ho⟩:=g.ex
  obtain⟨j0,j1,j2,j3,uty,hu⟩:=g.us
  have hl:=g.lt
  exact⟨ks,⟨⟨kv,pv,ov,ty,by rw [hg d hl.1];exact e,hk.keep fun _=>hg _ hl.2.2.1,hp.keep fun _=>hg _ hl.2.2.2.1,ho.keep fun _=>hg _ hl.2.2.2.2⟩,⟨j0,j1,j2,j3,uty,by rw [hg I.u hl.2.1];exact hu⟩,by omega,g.ne⟩,hs⟩
theorem EvL.same {H H2:AHeap}{v:AVal}{es:List Ev}{o:Nat}(h:EvL H v es o)(hg:es≠ []→H2.get o=H.get o)(hn:H.next≤H2.next):EvL H2 v es o:=by
  rcases h with h | ⟨h1,h2,ver,m,f,h3,h4⟩
  · exact .inl h
  · exact .inr ⟨h1,by omega,ver,m,f,h3,by rw [hg h1];exact h4⟩
theorem elemsOf_get {h h2:AHeap}{a a2:AAddr}{n c c2:Nat}(e:h2.get a2.id=h.get a.id)(e1:a2.ver=a.ver)(e2:a2.idx=a.idx)(e3:a2.fld=a.fld)(e4:a2.es=a.es):elemsOf 1 (.slice (some a2) n c2) h2=elemsOf 1 (.slice (some a) n c) h:=by
  simp only [elemsOf,e,e1,e2,e3,e4]
theorem allInt_bare {l:List AVal}(h:allInt l=true): ∀ e∈l,Bare e:=by
  intro e he
  have:=List.all_eq_true.1 h e he
  cases e<;>first | exact Bare.int _ _ | (simp at this)
theorem enc_spec {r:Option (AVal×AHeap)} (h:encOk r=true): ∃ a c H b,r=some (.tuple [.slice (some a) 8 c,.int .i64 0],H)∧a.id<H.next∧H.get a.id=some b∧BareB b∧ ∃ l,elemsOf 1 (.slice (some a) 8 c) H=some l∧bytesOf l=some wEnc:=by
  unfold encOk at h
  split at h
  · rename_i a n c e H
    simp only [Bool.and_eq_true,decide_eq_true_eq]at h
    obtain⟨⟨⟨⟨⟨⟨rfl,rfl⟩,h1⟩,h2⟩,h0⟩,h3⟩,h4⟩:=h
    split at h3
    · rename_i b hb
      split at h4
      · rename_i l hl
        exact⟨a,c,H,b,rfl,Nat.blt_eq.mp h0,hb,allInt_bare h3,l,hl,of_decide_eq_true h4⟩
      · cases h4
    · cases h3
  · cases h
theorem nam_spec {r:Option (AVal×AHeap)}(h:namOk r=true): ∃ H,r=some (.tuple [evW 1 120 6,.int .i64 0],H):=by
  unfold namOk at h
  split at h
  · simp only [Bool.and_eq_true,decide_eq_true_eq]at h
    obtain⟨⟨⟨⟨⟨⟨rfl,rfl⟩,rfl⟩,rfl⟩,rfl⟩,rfl⟩,rfl⟩:=h
    exact⟨_,rfl⟩
  · cases h
theorem enc_does(H:AHeap): ∃ H' a c,FDoes Tryz.prog cnd 21 [evW 1 105 4] H (.tuple [.slice (some a) 8 c,.int .i64 0]) H'∧a.id<H'.next∧(∃ l,elemsOf 1 (.slice (some a) 8 c) H'=some l∧bytesOf l=some wEnc)∧H.next≤H'.next∧ ∀ j,j<H.next→H'.get j=H.get j:=by
  obtain⟨a,c,h1,b,hr,hlt,hb,hbb,l,hl,hl2⟩:=enc_spec enc_run
  rw [fcall_eq]at hr
  have hd:FDoes Tryz.prog cnd 21 [evW 1 105 4] (AHeap.of []) _ h1:=FDoes.of_acall env_ok mixed hr
  obtain⟨H',hd',hnx,hget,hout⟩:=hd.place (by simp) (fun b hb=>by cases hb) (by exact⟨(Bare.of rfl).clo _,trivial⟩) (H:=H) [] List.nodup_nil (fun j hj=>by cases hj) rfl (fun i b h=>by simp at h)
  have r: ∀ i,toBig [] H.next i=H.next+i:=fun i=>by rw [toBig_ge (by simp)];simp
  have g:=hget a.id b hb
  rw [hbb.ren,r]at g
  refine⟨H',⟨H.next+a.id,a.ver,a.idx,a.fld,a.es⟩,c,?_,by rw [hnx];simp only [List.length_nil,Nat.sub_zero];show H.next+a.id<_;omega,⟨l,?_,hl2⟩,by omega,fun j hj=>hout j hj (by simp)⟩
  · simpa [AVal.ren,AVal.rens,AAddr.ren,r]using hd'
  · exact(elemsOf_get (h:=h1) (h2:=H') (a:=a) (a2:=⟨H.next+a.id,a.ver,a.idx,a.fld,a.es⟩) (c:=c) (c2:=c) (by show H'.get (H.next+a.id)=_;rw [g,hb]) rfl rfl rfl rfl).trans hl
theorem nam_does(H:AHeap):FDoes Tryz.prog cnd 25 [.str wName] H (.tuple [evW 1 120 6,.int .i64 0]) H:=by
  obtain⟨h1,hr⟩:=nam_spec nam_run
  rw [fcall_eq]at hr
  exact(FDoes.of_acall env_ok mixed hr).bare (fun a ha=>by rw [List.mem_singleton.1 ha];exact Bare.str _) (Bare.of rfl) H
theorem conv_text2 {F:Facts}{nid k n c:Nat}{H:AHeap}{a:AAddr}{l:List AVal}{s:Bytes}(hf:getF F (.tmp k)= .slice (some a) n c)(hel:elemsOf 1 (.slice (some a) n c) H=some l)(hb:bytesOf l=some s):xop env nid (getF F) H (Op.convert 34 9 (Operand.tmp k))=some (.str s,H):=by
  have h1:(AEnv.D env 34).map (fun d=>d.kind)=some (.slice 5):=by kernel_rfl
  have h2:(AEnv.D env 9).map (fun d=>d.kind)=some .string:=by kernel_rfl
  have h3:(AEnv.D env 5).map (fun d=>d.kind)=some (.int .u8):=by kernel_rfl
  obtain⟨x1,d1,k1⟩:=Option.map_eq_some_iff.1 h1
  obtain⟨x2,d2,k2⟩:=Option.map_eq_some_iff.1 h2
  obtain⟨x3,d3,k3⟩:=Option.map_eq_some_iff.1 h3
  simp only [xop,hf,aconvX,d1,d2,k1,k2,d3,k3,hel,hb,Option.map_some]
abbrev wB:Bytes:= [97,27,91,49,59,54,67,27]
abbrev s0:DS:=⟨.ground,[],[],[]⟩
theorem w_feed:feedAll s0 wB=(⟨.escape,[27],[],[]⟩,[EvRune 97 0,⟨2,7,5,0,0,[]⟩]):=by kernel_rfl
theorem good0:Keys.Good s0:=by unfold Keys.Good;simp
theorem EvL.fr {H H':AHeap}{v:AVal}{es:List Ev}{o d:Nat}{I I':Ids}(h:EvL H v es o)(off:es≠ []→Off o d I)(fr:Fr H H' d I I'):EvL H' v es o∧(es≠ []→Off o d I'):=by
  rcases h with h | ⟨h1,h2,ver,m,f,h3,h4⟩
  · exact⟨.inl h,fun x=>absurd h.2 x⟩
  · have hf:=fr.next
    exact⟨.inr ⟨h1,by omega,ver,m,f,h3,by rw [(off h1).get fr h2];exact h4⟩,fun x=>(off x).fr fr h2⟩
theorem Fr.lift {H H0 H':AHeap}{d:Nat}{I I':Ids}(fr:Fr H0 H' d I I')(hn:H.next≤H0.next)(hg: ∀ j,j<H.next→H0.get j=H.get j):Fr H H' d I I' where
  next:=by have:=fr.next;omega
  get j hj n1 n2 n3 n4 n5:=by rw [fr.get j (by omega) n1 n2 n3 n4 n5];exact hg j hj
  ids x hx:=by have:=fr.ids x hx;omega
theorem EvL.cases {H:AHeap}{v:AVal}{e:Ev}{es:List Ev}{o:Nat}(h:EvL H v (e::es) o): ∃ ver m f,v= .slice (some ⟨o,ver,0,0,6⟩) (e::es).length (e::es).length∧H.get o=some (gRowB ((e::es).map evA) 6 ver m f evTy)∧o<H.next:=by
  rcases h with h | ⟨h1,h2,ver,m,f,h3,h4⟩
  · exact absurd h.2 (by simp)
  · exact⟨ver,m,f,h3,h4,h2⟩
theorem store_new {h:AHeap}{x:Nat}{ty:Option (TypeId×Nat)}{a b c:Int}(e:h.get x=some (ABlk.made [evW 0 0 0] 6 true ty)):astore (AEnv.D env) 42 ⟨x,0,0,0,6⟩ (evW a b c) h=some (h.set x (ABlk.made [evW a b c] 6 true ty)):=by
  have hD:(AEnv.D env 42).map (fun d=>(d.kind.isAgg,d.size))=some (true,6):=by kernel_rfl
  obtain⟨x,h1,h2⟩:=Option.map_eq_some_iff.1 hD
  simp only [Prod.mk.injEq]at h2
  unfold astore
  rw [h1,e]
  simp [AVal.fits,h2.1,h2.2,ABlk.made,storeElem,AVal.cells,putAll]
  exact⟨rfl,rfl,rfl,rfl,rfl⟩
theorem load_new {h:AHeap}{x:Nat}{ty:Option (TypeId×Nat)}{a b c:Int}(e:h.get x=some (ABlk.made [evW a b c] 6 true ty)):aload (AEnv.D env) 42 ⟨x,0,0,0,6⟩ h=some (evW a b c):=by
  have hD:(AEnv.D env 42).map (fun d=>(d.kind.isAgg,d.size))=some (true,6):=by kernel_rfl
  obtain⟨x,h1,h2⟩:=Option.map_eq_some_iff.1 hD
  simp only [Prod.mk.injEq]at h2
  unfold aload
  rw [h1,e]
  simp [ABlk.elem?,ABlk.lim,loadElem,h2.1,h2.2,ABlk.made]
theorem aop_storeT {t:TypeId}{F:Facts}{H H1:AHeap}{a:AAddr}{v:AVal}{nid k m:Nat}(hf:getF F (.tmp k)= .ptr (some a))(hm:getF F (.tmp m)=v)(hs:astore (AEnv.D env) t a v H=some H1):aop env noCall nid (getF F) H (Op.store t (Operand.tmp k) (Operand.tmp m))=some (.tuple [],H1):=by
  simp only [aop,hf,hm,hs,Option.map_some]
theorem made_byte(l:Bytes)(e:Bool)(j:Nat)(h:j<l.length):(ABlk.made (bytesA l) 1 e).elem? 0 (0+j)=some (.int .u8 l[j].toNat):=by
  simp [ABlk.elem?,ABlk.lim,ABlk.made,bytesA,h]
theorem wakes_does(H:AHeap): ∃ H',FDoes Tryz.prog cnd 19 [] H (.bool true) H':=by
  have hbl: ∀ {a b:Nat} {p:Prop},a≤b→p→_root_.cond (Nat.ble a b) p False:=fun h k=>by rw [Nat.ble_eq.mpr h];exact k
  obtain⟨H1,d,I,hnew,g1,_,_,_,_,_,n1,_⟩:=new_does ⟨H.next+3,H.blks⟩
  have n1:H.next+3≤H1.next:=n1
  have lt1:=(by obtain⟨ks,gg,_⟩:=g1;exact gg.lt:d<H1.next∧I.u<H1.next∧I.k<H1.next∧I.p<H1.next∧I.o<H1.next)
  have hb2: ∀ F,aop env noCall (H1.next+3) (getF F) ⟨H1.next+7,H1.blks⟩ (Op.buildSlice 34 8 {toList:= [(0,Operand.const (Value.int IntKind.u8 (97))),(1,Operand.const (Value.int IntKind.u8 (27))),(2,Operand.const (Value.int IntKind.u8 (91))),(3,Operand.const (Value.int IntKind.u8 (49))),(4,Operand.const (Value.int IntKind.u8 (59))),(5,Operand.const (Value.int IntKind.u8 (54))),(6,Operand.const (Value.int IntKind.u8 (67))),(7,Operand.const (Value.int IntKind.u8 (27)))]})=some (AVal.slice (some ⟨H1.next+3,0,0,0,1⟩) 8 8,(⟨H1.next+7,H1.blks⟩:AHeap).set (H1.next+3) (ABlk.made (bytesA wB) 1 true)):=by intro F;kernel_rfl
  have hg2:((⟨H1.next+7,H1.blks⟩:AHeap).set (H1.next+3) (ABlk.made (bytesA wB) 1 true)).get (H1.next+3)=some (ABlk.made (bytesA wB) 1 true):=AHeap.get_set_self _ _ _
  have ho2: ∀ j,j<H1.next→((⟨H1.next+7,H1.blks⟩:AHeap).set (H1.next+3) (ABlk.made (bytesA wB) 1 true)).get j=H1.get j:=fun j hj=>AHeap.get_set_ne _ _ (by omega)
  have hn2:((⟨H1.next+7,H1.blks⟩:AHeap).set (H1.next+3) (ABlk.made (bytesA wB) 1 true)).next=H1.next+7:=rfl
  generalize hH2:(⟨H1.next+7,H1.blks⟩:AHeap).set (H1.next+3) (ABlk.made (bytesA wB) 1 true)=H2 at hb2 hg2 ho2 hn2
  have g2:DAt H2 d I s0 []:=g1.same ho2 (by omega)
  have hcv: ∀ F,getF F (.tmp 15)=AVal.slice (some ⟨H1.next+3,0,0,0,1⟩) 8 8→xop env (H1.next+4) (getF F) H2 (Op.convert 34 34 (Operand.tmp 15))=some (AVal.slice (some ⟨H1.next+3,0,0,0,1⟩) 8 8,H2):=by
    intro F hf
    have h1:(AEnv.D env 34).map (fun d=>d.kind)=some (.slice 5):=by kernel_rfl
    have h3:(AEnv.D env 5).map (fun d=>d.kind)=some (.int .u8):=by kernel_rfl
    obtain⟨x1,d1,k1⟩:=Option.map_eq_some_iff.1 h1
    obtain⟨x3,d3,k3⟩:=Option.map_eq_some_iff.1 h3
    simp only [xop,hf,aconvX,d1,k1,d3,k3,hg2]
    simp [ABlk.made]
  obtain⟨H3,v3,I3,o3,hfeed,g3,fr3,e3,off3⟩:=feed_does (m:=8) (bs:=wB) g2 good0 (by decide) (.inr ⟨H1.next+3,0,0,rfl,⟨_,hg2,made_byte wB true⟩,by omega,by omega,by omega,by omega,by omega,by omega⟩)
  rw [w_feed]at g3 e3 off3
  simp only at g3 e3 off3
  have off3:=(off3 (by simp)).1
  have n3:=fr3.next
  obtain⟨lv,m3,f3,rfl,r3,lt3⟩:=e3.cases
  obtain⟨H4,hheld,I4,g4,fr4⟩:=held_does (nextD (k:=3) g3) (by decide) (by decide)
  have n4:H3.next+3≤H4.next:=fr4.next
  have fr34:=nextFr1 fr4
  have off4:=off3.fr fr34 lt3
  have r4:=off3.get fr34 lt3
  obtain⟨H5,v5,I5,o5,hflush,g5,fr5,e5,off5⟩:=flush_does (nextD (k:=3) g4) (by have h:=good_feedAll wB (s:=s0) good0;rw [w_feed]at h;exact h) (by decide)
  have wf:flush ⟨.escape,[27],[],[]⟩=(⟨.ground,[],[],[]⟩,[EvKey 4]):=by kernel_rfl
  rw [wf]at g5 e5 off5
  simp only at g5 e5 off5
  have n5:H4.next+3≤H5.next:=fr5.next
  have fr45:=nextFr1 fr5
  have r5:=off4.get fr45 (by omega)
  obtain⟨kv,m5,f5,rfl,r5k,lt5⟩:=e5.cases
  obtain⟨H6,ba,bc,henc,lt6,⟨l6,el6,bl6⟩,n6,o6⟩:=enc_does ⟨H5.next+7,H5.blks⟩
  have n6:H5.next+7≤H6.next:=n6
  have hnam:=nam_does ⟨H6.next+7,H6.blks⟩
  have hal: ∀ F,aop env noCall (H6.next+4) (getF F) ⟨H6.next+7,H6.blks⟩ (Op.alloc 42)=some (.ptr (some ⟨H6.next+4,0,0,0,6⟩),(⟨H6.next+7,H6.blks⟩:AHeap).set (H6.next+4) (ABlk.made [evW 0 0 0] 6 true (some (42,6)))):=by intro F;kernel_rfl
  have hg8:((⟨H6.next+7,H6.blks⟩:AHeap).set (H6.next+4) (ABlk.made [evW 0 0 0] 6 true (some (42,6)))).get (H6.next+4)=some (ABlk.made [evW 0 0 0] 6 true (some (42,6))):=AHeap.get_set_self _ _ _
  have ho8: ∀ j,j<H6.next→((⟨H6.next+7,H6.blks⟩:AHeap).set (H6.next+4) (ABlk.made [evW 0 0 0] 6 true (some (42,6)))).get j=H6.get j:=fun j hj=>AHeap.get_set_ne _ _ (by omega)
  have hn8:((⟨H6.next+7,H6.blks⟩:AHeap).set (H6.next+4) (ABlk.made [evW 0 0 0] 6 true (some (42,6)))).next=H6.next+7:=rfl
  generalize hH8:(⟨H6.next+7,H6.blks⟩:AHeap).set (H6.next+4) (ABlk.made [evW 0 0 0] 6 true (some (42,6)))=H8 at hal hg8 ho8 hn8
  have hst:=store_new (a:=1) (b:=120) (c:=6) hg8
  have hg9:(H8.set (H6.next+4) (ABlk.made [evW 1 120 6] 6 true (some (42,6)))).get (H6.next+4)=some (ABlk.made [evW 1 120 6] 6 true (some (42,6))):=AHeap.get_set_self _ _ _
  have ho9: ∀ j,j<H6.next→(H8.set (H6.next+4) (ABlk.made [evW 1 120 6] 6 true (some (42,6)))).get j=H6.get j:=fun j hj=>by rw [AHeap.get_set_ne _ _ (by omega)];exact ho8 j hj
  have hn9:(H8.set (H6.next+4) (ABlk.made [evW 1 120 6] 6 true (some (42,6)))).next=H6.next+7:=hn8
  generalize hH9:H8.set (H6.next+4) (ABlk.made [evW 1 120 6] 6 true (some (42,6)))=H9 at hst hg9 ho9 hn9
  have q3:H9.get o3=some (gRowB ([EvRune 97 0,⟨2,7,5,0,0,[]⟩].map evA) 6 lv m3 f3 evTy):=by
    rw [ho9 _ (by omega),o6 _ (by show o3<H5.next+7;omega)]
    show H5.get o3=_
    rw [r5,r4,r3]
  have q5:H9.get o5=some (gRowB ([EvKey 4].map evA) 6 kv m5 f5 evTy):=by
    rw [ho9 _ (by omega),o6 _ (by show o5<H5.next+7;omega)]
    exact r5k
  have q6:elemsOf 1 (.slice (some ba) 8 bc) ⟨H9.next+56,H9.blks⟩=some l6:=by
    rw [← el6]
    exact elemsOf_get (by show H9.get ba.id=_;exact ho9 _ lt6) rfl rfl rfl rfl
  have ld: ∀ k,aload (AEnv.D env) 42 ⟨o3,lv,0,0,6⟩ ⟨H9.next+k,H9.blks⟩=some (evW 1 97 0):=fun k=>load_ev (i:=0) (h:=⟨H9.next+k,H9.blks⟩) q3 (by decide)
  have ld2: ∀ k,aload (AEnv.D env) 42 ⟨o3,lv,1,0,6⟩ ⟨H9.next+k,H9.blks⟩=some (evW 2 7 5):=fun k=>load_ev (i:=1) (h:=⟨H9.next+k,H9.blks⟩) q3 (by decide)
  have ld3: ∀ k,aload (AEnv.D env) 42 ⟨o5,kv,0,0,6⟩ ⟨H9.next+k,H9.blks⟩=some (evW 2 4 0):=fun k=>load_ev (i:=0) (h:=⟨H9.next+k,H9.blks⟩) q5 (by decide)
  have ldx: ∀ k,aload (AEnv.D env) 42 ⟨H6.next+4,0,0,0,6⟩ ⟨H9.next+k,H9.blks⟩=some (evW 1 120 6):=fun k=>load_new (h:=⟨H9.next+k,H9.blks⟩) hg9
  obtain⟨v,h',hd,rfl⟩:=wakes_vc H H1 H2 H3 H4 H5 H6 ⟨H6.next+7,H6.blks⟩ H8 H9 d (H1.next+3) o3 lv o5 kv (H6.next+4) bc 0 ba (fun v _=>v= .bool true)
    (bif_ble (Nat.le_refl _) (bif_ble (by omega) ⟨⟨hnew⟩,bif_ble (by omega) (bif_ble (by omega) ⟨hb2 _,hcv _ rfl,⟨hfeed⟩,bif_ble (by omega) ⟨⟨hheld⟩,bif_ble (by omega) ⟨⟨hflush⟩,bif_ble (by omega) ⟨⟨henc⟩,bif_ble (by omega) ⟨⟨hnam⟩,hal _,aop_storeT rfl rfl hst,bif_ble (by omega) ⟨ld 18,ld2 18,bif_ble (by omega) ⟨ld3 33,bif_ble (by omega) ⟨conv_text2 rfl q6 bl6,ldx 56,hbl (by omega) rfl⟩⟩⟩⟩⟩⟩⟩⟩)⟩))
  exact⟨h',hd⟩
abbrev zv97_0(H:AHeap):AHeap:=(AHeap.mk (H.next+13+2) (AHeap.blks (AHeap.mk (H.next+4+9) (AHeap.blks (AHeap.mk (H.next+4) (AHeap.blks H))))))
theorem pb_vp(H:AHeap)(B q bv bo n c i acc pn pc:Nat)(po:Option AAddr)(K0:AExit→Facts→AHeap→Prop)(vc:bif Nat.ble B (H.next) && true then((i:Int)<(n:Int)→bif Nat.ble B (H.next+4) && true then(-9223372036854775808≤(acc:Int)+1∧(acc:Int)+1≤9223372036854775807)∧(0≤(i:Int)∧(i:Int)<(n:Int))∧aload env.D 34 ⟨q,bv,bo+Int.toNat (i:Int),0,1⟩ (AHeap.mk (H.next+13) (H.2))=some (AVal.slice po pn pc)∧(-9223372036854775808≤(acc:Int)+1+(pn:Int)∧(acc:Int)+1+(pn:Int)≤9223372036854775807)∧bif Nat.ble B (H.next+13) && true then(134217728<(acc:Int)+1+(pn:Int)→bif Nat.ble B (H.next+15) && true then K0 .ret [(0,.slice (some ⟨q,bv,bo,0,1⟩) n c),(2,.bool true),(3,.int .i64 ((acc:Int)+1+(pn:Int))),(4,.int .i64 (i:Int))] (AHeap.mk (H.next+15+1) (AHeap.blks (zv97_0 H)))else False)∧(¬134217728<(acc:Int)+1+(pn:Int)→bif Nat.ble B (H.next+15) && true then(-9223372036854775808≤(i:Int)+1∧(i:Int)+1≤9223372036854775807)∧K0 .normal [(0,.slice (some ⟨q,bv,bo,0,1⟩) n c),(3,.int .i64 ((acc:Int)+1+(pn:Int))),(4,.int .i64 ((i:Int)+1))] (AHeap.mk (H.next+15+3) (AHeap.blks (zv97_0 H)))else False)else False else False)∧(¬(i:Int)<(n:Int)→K0 (.exit 0) [(0,.slice (some ⟨q,bv,bo,0,1⟩) n c),(3,.int .i64 (acc:Int)),(4,.int .i64 (i:Int))] (AHeap.mk (H.next+4) (AHeap.blks H)))else False) :
    ∃ e F1 h1,Runs Tryz.prog cnd B 129 (loopAt Tryz.prog 9 0) [(0,.slice (some ⟨q,bv,bo,0,1⟩) n c),(3,.int .i64 acc),(4,.int .i64 i)] H e F1 h1∧K0 e F1 h1 :=
  tpath_runs env_ok mixed specsL_ok (hs:= .br 3003 (hg 5001 (hg 5004 (.hint (.val 5005 (.slice po pn pc)) (hg 5007 (.br 6001 .nil (hg 4001 .nil)))))) .nil) (keep:= [0,2,3,4]) (by kernel_rfl) vc
theorem pb0_vp(H:AHeap)(B c:Nat)(K0:AExit→Facts→AHeap→Prop)(vc:bif Nat.ble B (H.next) && true then K0 (.exit 0) [(0,.slice none 0 c),(3,.int .i64 0),(4,.int .i64 0)] (AHeap.mk (H.next+4) (AHeap.blks H))else False) :
    ∃ e F1 h1,Runs Tryz.prog cnd B 129 (loopAt Tryz.prog 9 0) [(0,.slice none 0 c),(3,.int .i64 0),(4,.int .i64 0)] H e F1 h1∧K0 e F1 h1 :=
  tpath_runs env_ok mixed specsL_ok (hs:= .nil) (keep:= [0,2,3,4]) (by kernel_rfl) vc
theorem pi_vp(H H1 H2 H3:AHeap)(B q bv bo n c i k r rv ro pn pc x y:Nat)(da db dc:Nat)(av lv mv:AVal)(fv mv2:AVal)(K0:AExit→Facts→AHeap→Prop)(vc:bif Nat.ble B (H.next) && true then(0≤(i:Int)∧(i:Int)<(n:Int))∧aload env.D 34 ⟨q,bv,bo+Int.toNat (i:Int),0,1⟩ (AHeap.mk (H.next+7) (H.2))=some (AVal.slice (some ⟨r,rv,ro,0,1⟩) pn pc)∧((k:Int)<(pn:Int)→bif Nat.ble B (H.next+7) && true then(0≤(i:Int)∧(i:Int)<(n:Int))∧aload env.D 34 ⟨q,bv,bo+Int.toNat (i:Int),0,1⟩ (AHeap.mk (H.next+16) (H.2))=some (AVal.slice (some ⟨r,rv,ro,0,1⟩) pn pc)∧(0≤(k:Int)∧(k:Int)<(pn:Int))∧aload env.D 5 ⟨r,rv,ro+Int.toNat (k:Int),0,1⟩ (AHeap.mk (H.next+16) (H.2))=some (.int .u8 (x:Int))∧aop env noCall (H.next+14) (getF [(80,.int .u8 (x:Int)),(79,.ptr (some ⟨r,rv,ro+Int.toNat (k:Int),0,1⟩)),(78,.int .i64 (k:Int)),(77,.slice (some ⟨r,rv,ro,0,1⟩) pn pc),(76,.ptr (some ⟨q,bv,bo+Int.toNat (i:Int),0,1⟩)),(75,.int .i64 (i:Int)),(74,.slice (some ⟨q,bv,bo,0,1⟩) n c),(71,.bool true),(70,.int .i64 (pn:Int)),(69,.slice (some ⟨r,rv,ro,0,1⟩) pn pc),(68,.ptr (some ⟨q,bv,bo+Int.toNat (i:Int),0,1⟩)),(67,.int .i64 (i:Int)),(66,.slice (some ⟨q,bv,bo,0,1⟩) n c),(65,.int .i64 (k:Int)),(0,.slice (some ⟨q,bv,bo,0,1⟩) n c),(5,.ptr (some ⟨da,0,0,0,6⟩)),(6,.ptr (some ⟨db,0,0,0,6⟩)),(7,.ptr (some ⟨dc,0,0,0,6⟩)),(8,av),(9,lv),(10,mv),(11,.int .i64 (i:Int)),(13,.int .i64 (k:Int))]) (AHeap.mk (H.next+16) (H.2)) (Op.buildSlice 34 1 {toList:= [(0,Operand.tmp 80)]})=some (AVal.slice (some ⟨y,0,0,0,1⟩) 1 1,H1)∧bif Nat.ble B (H1.next) && true then CallT Tryz.prog cnd 26 [.ptr (some ⟨db,0,0,0,6⟩),.slice (some ⟨y,0,0,0,1⟩) 1 1] (AHeap.mk (H1.next+6) (H1.2)) fv H2∧abuiltin env Builtin.append {toList:= [56,56]} [mv,fv] (H1.next+4) H2=some (mv2,H3)∧bif Nat.ble B (H3.next) && true then(-9223372036854775808≤(k:Int)+1∧(k:Int)+1≤9223372036854775807)∧K0 .normal [(0,.slice (some ⟨q,bv,bo,0,1⟩) n c),(5,.ptr (some ⟨da,0,0,0,6⟩)),(6,.ptr (some ⟨db,0,0,0,6⟩)),(7,.ptr (some ⟨dc,0,0,0,6⟩)),(8,av),(9,lv),(10,mv2),(11,.int .i64 (i:Int)),(13,.int .i64 ((k:Int)+1))] (AHeap.mk (H3.next+3) (AHeap.blks H3))else False else False else False)∧(¬(k:Int)<(pn:Int)→K0 (.exit 4) [(0,.slice (some ⟨q,bv,bo,0,1⟩) n c),(5,.ptr (some ⟨da,0,0,0,6⟩)),(6,.ptr (some ⟨db,0,0,0,6⟩)),(7,.ptr (some ⟨dc,0,0,0,6⟩)),(8,av),(9,lv),(10,mv),(11,.int .i64 (i:Int)),(13,.int .i64 (k:Int))] (AHeap.mk (H.next+7) (AHeap.blks H)))else False) :
    ∃ e F1 h1,Runs Tryz.prog cnd B 129 (loopAt Tryz.prog 9 2) [(0,.slice (some ⟨q,bv,bo,0,1⟩) n c),(5,.ptr (some ⟨da,0,0,0,6⟩)),(6,.ptr (some ⟨db,0,0,0,6⟩)),(7,.ptr (some ⟨dc,0,0,0,6⟩)),(8,av),(9,lv),(10,mv),(11,.int .i64 i),(13,.int .i64 k)] H e F1 h1∧K0 e F1 h1 :=
  tpath_runs env_ok mixed specsL_ok (hs:=hg 23003 (.hint (.val 23004 (.slice (some ⟨r,rv,ro,0,1⟩) pn pc)) (.br 23006 (hg 25002 (.hint (.val 25003 (.slice (some ⟨r,rv,ro,0,1⟩) pn pc)) (hg 25005 (.hint (.val 25006 (.int .u8 (x:Int))) (.hint (.act 25007 (.slice (some ⟨y,0,0,0,1⟩) 1 1) fun x=>H1) (.hint (.act 26003 fv fun x=>H2) (.hint (.act 26004 mv2 fun x=>H3) (hg 24001 .nil)))))))) .nil))) (keep:= [0,5,6,7,8,9,10,11,13]) (by kernel_rfl) vc
theorem pi0_vp(H:AHeap)(B q bv bo n c i pc:Nat)(da db dc:Nat)(av lv mv:AVal)(K0:AExit→Facts→AHeap→Prop)(vc:bif Nat.ble B (H.next) && true then(0≤(i:Int)∧(i:Int)<(n:Int))∧aload env.D 34 ⟨q,bv,bo+Int.toNat (i:Int),0,1⟩ (AHeap.mk (H.next+7) (H.2))=some (AVal.slice none 0 pc)∧K0 (.exit 4) [(0,.slice (some ⟨q,bv,bo,0,1⟩) n c),(5,.ptr (some ⟨da,0,0,0,6⟩)),(6,.ptr (some ⟨db,0,0,0,6⟩)),(7,.ptr (some ⟨dc,0,0,0,6⟩)),(8,av),(9,lv),(10,mv),(11,.int .i64 (i:Int)),(13,.int .i64 0)] (AHeap.mk (H.next+7) (AHeap.blks H))else False) :
    ∃ e F1 h1,Runs Tryz.prog cnd B 129 (loopAt Tryz.prog 9 2) [(0,.slice (some ⟨q,bv,bo,0,1⟩) n c),(5,.ptr (some ⟨da,0,0,0,6⟩)),(6,.ptr (some ⟨db,0,0,0,6⟩)),(7,.ptr (some ⟨dc,0,0,0,6⟩)),(8,av),(9,lv),(10,mv),(11,.int .i64 i),(13,.int .i64 0)] H e F1 h1∧K0 e F1 h1 :=
  tpath_runs env_ok mixed specsL_ok (hs:=hg 23003 (.hint (.val 23004 (.slice none 0 pc)) .nil)) (keep:= [0,5,6,7,8,9,10,11,13]) (by kernel_rfl) vc
theorem pm_vp(H H1 H2 H3 H4 H5:AHeap)(B q bv bo n c i pn pc:Nat)(po:Option AAddr)(da db dc:Nat)(av lv mv:AVal)(pv fv av2 lv2 mv2 kv:AVal)(K0:AExit→Facts→AHeap→Prop)(vc:bif Nat.ble B (H.next) && true then((i:Int)<(n:Int)→bif Nat.ble B (H.next+4) && true then bif Nat.ble B (H.next+5) && true then(0≤(i:Int)∧(i:Int)<(n:Int))∧aload env.D 34 ⟨q,bv,bo+Int.toNat (i:Int),0,1⟩ (AHeap.mk (H.next+12) (H.2))=some (AVal.slice po pn pc)∧abuiltin env Builtin.append {toList:= [34,34]} [.slice none 0 0,.slice po pn pc] (H.next+10) (AHeap.mk (H.next+12) (H.2))=some (pv,H1)∧bif Nat.ble B (H1.next) && true then abuiltin env Builtin.append {toList:= [34,34]} [av,pv] (H1.next+2) (AHeap.mk (H1.next+4) (H1.2))=some (av2,H2)∧bif Nat.ble B (H2.next) && true then CallT Tryz.prog cnd 26 [.ptr (some ⟨da,0,0,0,6⟩),pv] (AHeap.mk (H2.next+6) (H2.2)) fv H3∧abuiltin env Builtin.append {toList:= [56,56]} [lv,fv] (H2.next+4) H3=some (lv2,H4)∧bif Nat.ble B (H4.next) && true then Runs Tryz.prog cnd B 129 (Code.loop (loopAt Tryz.prog 9 2)) [(0,.slice (some ⟨q,bv,bo,0,1⟩) n c),(5,.ptr (some ⟨da,0,0,0,6⟩)),(6,.ptr (some ⟨db,0,0,0,6⟩)),(7,.ptr (some ⟨dc,0,0,0,6⟩)),(8,av2),(9,lv2),(10,mv),(11,.int .i64 (i:Int)),(13,.int .i64 0)] (AHeap.mk (H4.next+1) (AHeap.blks H4)) (.exit 4) [(0,.slice (some ⟨q,bv,bo,0,1⟩) n c),(5,.ptr (some ⟨da,0,0,0,6⟩)),(6,.ptr (some ⟨db,0,0,0,6⟩)),(7,.ptr (some ⟨dc,0,0,0,6⟩)),(8,av2),(9,lv2),(10,mv2),(11,.int .i64 (i:Int)),(13,kv)] H5∧bif Nat.ble B (H5.next) && true then(-9223372036854775808≤(i:Int)+1∧(i:Int)+1≤9223372036854775807)∧K0 .normal [(0,.slice (some ⟨q,bv,bo,0,1⟩) n c),(5,.ptr (some ⟨da,0,0,0,6⟩)),(6,.ptr (some ⟨db,0,0,0,6⟩)),(7,.ptr (some ⟨dc,0,0,0,6⟩)),(8,av2),(9,lv2),(10,mv2),(11,.int .i64 ((i:Int)+1))] (AHeap.mk (H5.next+3) (AHeap.blks H5))else False else False else False else False else False else False)∧(¬(i:Int)<(n:Int)→K0 (.exit 2) [(0,.slice (some ⟨q,bv,bo,0,1⟩) n c),(5,.ptr (some ⟨da,0,0,0,6⟩)),(6,.ptr (some ⟨db,0,0,0,6⟩)),(7,.ptr (some ⟨dc,0,0,0,6⟩)),(8,av),(9,lv),(10,mv),(11,.int .i64 (i:Int))] (AHeap.mk (H.next+4) (AHeap.blks H)))else False) :
    ∃ e F1 h1,Runs Tryz.prog cnd B 129 (loopAt Tryz.prog 9 1) [(0,.slice (some ⟨q,bv,bo,0,1⟩) n c),(5,.ptr (some ⟨da,0,0,0,6⟩)),(6,.ptr (some ⟨db,0,0,0,6⟩)),(7,.ptr (some ⟨dc,0,0,0,6⟩)),(8,av),(9,lv),(10,mv),(11,.int .i64 i)] H e F1 h1∧K0 e F1 h1 :=
  tpath_runs env_ok mixed specsL_ok (hs:= .br 16003 (hg 19003 (.hint (.val 19004 (.slice po pn pc)) (.hint (.act 19005 pv fun x=>H1) (.hint (.act 20002 av2 fun x=>H2) (.hint (.act 21003 fv fun x=>H3) (.hint (.act 21004 lv2 fun x=>H4) (.hint (.keep [0,5,6,7,8,9,10,11,13]) (.hint (.loop [(0,.slice (some ⟨q,bv,bo,0,1⟩) n c),(5,.ptr (some ⟨da,0,0,0,6⟩)),(6,.ptr (some ⟨db,0,0,0,6⟩)),(7,.ptr (some ⟨dc,0,0,0,6⟩)),(8,av2),(9,lv2),(10,mv2),(11,.int .i64 (i:Int)),(13,kv)] H5 (.exit 4)) (hg 17001 .nil))))))))) .nil) (keep:= [0,5,6,7,8,9,10,11]) (by kernel_rfl) vc
theorem pm0_vp(H:AHeap)(B c:Nat)(da db dc:Nat)(av lv mv:AVal)(K0:AExit→Facts→AHeap→Prop)(vc:bif Nat.ble B (H.next) && true then K0 (.exit 2) [(0,.slice none 0 c),(5,.ptr (some ⟨da,0,0,0,6⟩)),(6,.ptr (some ⟨db,0,0,0,6⟩)),(7,.ptr (some ⟨dc,0,0,0,6⟩)),(8,av),(9,lv),(10,mv),(11,.int .i64 0)] (AHeap.mk (H.next+4) (AHeap.blks H))else False) :
    ∃ e F1 h1,Runs Tryz.prog cnd B 129 (loopAt Tryz.prog 9 1) [(0,.slice none 0 c),(5,.ptr (some ⟨da,0,0,0,6⟩)),(6,.ptr (some ⟨db,0,0,0,6⟩)),(7,.ptr (some ⟨dc,0,0,0,6⟩)),(8,av),(9,lv),(10,mv),(11,.int .i64 0)] H e F1 h1∧K0 e F1 h1 :=
  tpath_runs env_ok mixed specsL_ok (hs:= .nil) (keep:= [0,5,6,7,8,9,10,11]) (by kernel_rfl) vc
theorem pA_vc(H H1:AHeap)(n c:Nat)(o:Option AAddr)(x y:AVal)(K0:AVal→AHeap→Prop)(vc:bif Nat.ble (H.next) (H.next) && true then bif Nat.ble (H.next) (H.next+1) && true then bif Nat.ble (H.next) (H.next+2) && true then Runs Tryz.prog cnd (H.next) 129 (Code.loop (loopAt Tryz.prog 9 0)) [(0,.slice o n c),(3,.int .i64 0),(4,.int .i64 0)] (AHeap.mk (H.next+2+1) (AHeap.blks (AHeap.mk (H.next+1+1) (AHeap.blks (AHeap.mk (H.next+1) (AHeap.blks H)))))) .ret [(0,.slice o n c),(2,.bool true),(3,x),(4,y)] H1∧bif Nat.ble (H.next) (H1.next)then K0 (.bool true) H1 else False else False else False else False) :
    ∃ v h1,FDoes Tryz.prog cnd 9 [.slice o n c] H v h1∧K0 v h1 :=
  tcall_does env_ok mixed specsL_ok (hs:= .hint (.keep [0,3,4]) (.hint (.loop [(0,.slice o n c),(2,.bool true),(3,x),(4,y)] H1 .ret) .nil)) (by kernel_rfl) vc
theorem pB_vc(H H1 H2 H3 H4 H5 H6 H7 H8 H9 H10 H11 H12 H13 H14 H15 H16 H17 H18:AHeap)(n c hv hw:Nat)(o:Option AAddr)(x y iv:AVal)(da db dc:Nat)(av lv mv:AVal)(wv xv yv:AVal)(K0:AVal→AHeap→Prop)(vc:bif Nat.ble (H.next) (H.next) && true then bif Nat.ble (H.next) (H.next+1) && true then bif Nat.ble (H.next) (H.next+2) && true then Runs Tryz.prog cnd (H.next) 129 (Code.loop (loopAt Tryz.prog 9 0)) [(0,.slice o n c),(3,.int .i64 0),(4,.int .i64 0)] (AHeap.mk (H.next+2+1) (AHeap.blks (AHeap.mk (H.next+1+1) (AHeap.blks (AHeap.mk (H.next+1) (AHeap.blks H)))))) (.exit 0) [(0,.slice o n c),(3,x),(4,y)] H1∧bif Nat.ble (H.next) (H1.next) && true then CallT Tryz.prog cnd 14 [] (AHeap.mk (H1.next+2) (H1.2)) (.ptr (some ⟨da,0,0,0,6⟩)) H2∧bif Nat.ble (H.next) (H2.next) && true then CallT Tryz.prog cnd 14 [] (AHeap.mk (H2.next+2) (H2.2)) (.ptr (some ⟨db,0,0,0,6⟩)) H3∧bif Nat.ble (H.next) (H3.next) && true then CallT Tryz.prog cnd 14 [] (AHeap.mk (H3.next+2) (H3.2)) (.ptr (some ⟨dc,0,0,0,6⟩)) H4∧bif Nat.ble (H.next) (H4.next) && true then bif Nat.ble (H.next) (H4.next+10) && true then bif Nat.ble (H.next) (H4.next+11) && true then bif Nat.ble (H.next) (H4.next+13) && true then Runs Tryz.prog cnd (H.next) 129 (Code.loop (loopAt Tryz.prog 9 1)) [(0,.slice o n c),(5,.ptr (some ⟨da,0,0,0,6⟩)),(6,.ptr (some ⟨db,0,0,0,6⟩)),(7,.ptr (some ⟨dc,0,0,0,6⟩)),(8,.slice none 0 0),(9,.slice none 0 0),(10,.slice none 0 0),(11,.int .i64 0)] (AHeap.mk (H4.next+13+1) (AHeap.blks (AHeap.mk (H4.next+11+2) (AHeap.blks (AHeap.mk (H4.next+10+1) (AHeap.blks (AHeap.mk (H4.next+10) (AHeap.blks H4)))))))) (.exit 2) [(0,.slice o n c),(5,.ptr (some ⟨da,0,0,0,6⟩)),(6,.ptr (some ⟨db,0,0,0,6⟩)),(7,.ptr (some ⟨dc,0,0,0,6⟩)),(8,av),(9,lv),(10,mv),(11,iv)] H5∧bif Nat.ble (H.next) (H5.next) && true then CallT Tryz.prog cnd 26 [.ptr (some ⟨dc,0,0,0,6⟩),av] (AHeap.mk (H5.next+4) (H5.2)) wv H6∧bif Nat.ble (H.next) (H6.next) && true then CallT Tryz.prog cnd 28 [lv,wv] (AHeap.mk (H6.next+24) (H6.2)) (.bool true) H7∧CallT Tryz.prog cnd 28 [mv,wv] H7 (.bool true) H8∧CallT Tryz.prog cnd 16 [.ptr (some ⟨da,0,0,0,6⟩)] H8 (.int .i64 (hv:Int)) H9∧CallT Tryz.prog cnd 16 [.ptr (some ⟨dc,0,0,0,6⟩)] H9 (.int .i64 (hv:Int)) H10∧some (AVal.bool ((hv:Int) != (hv:Int)))=some (AVal.bool false)∧CallT Tryz.prog cnd 16 [.ptr (some ⟨db,0,0,0,6⟩)] H10 (.int .i64 (hv:Int)) H11∧CallT Tryz.prog cnd 16 [.ptr (some ⟨dc,0,0,0,6⟩)] H11 (.int .i64 (hv:Int)) H12∧some (AVal.bool ((hv:Int) != (hv:Int)))=some (AVal.bool false)∧Agree [lv,wv] [mv,wv] (AHeap.mk (H6.next+24) (H6.2)) H7 (.bool true) (.bool true) H7 H8∧Agree [.ptr (some ⟨da,0,0,0,6⟩)] [.ptr (some ⟨dc,0,0,0,6⟩)] H8 H9 (.int .i64 (hv:Int)) (.int .i64 (hv:Int)) H9 H10∧Agree [.ptr (some ⟨da,0,0,0,6⟩)] [.ptr (some ⟨db,0,0,0,6⟩)] H8 H10 (.int .i64 (hv:Int)) (.int .i64 (hv:Int)) H9 H11∧Agree [.ptr (some ⟨da,0,0,0,6⟩)] [.ptr (some ⟨dc,0,0,0,6⟩)] H8 H11 (.int .i64 (hv:Int)) (.int .i64 (hv:Int)) H9 H12∧Agree [.ptr (some ⟨dc,0,0,0,6⟩)] [.ptr (some ⟨db,0,0,0,6⟩)] H9 H10 (.int .i64 (hv:Int)) (.int .i64 (hv:Int)) H10 H11∧Agree [.ptr (some ⟨dc,0,0,0,6⟩)] [.ptr (some ⟨dc,0,0,0,6⟩)] H9 H11 (.int .i64 (hv:Int)) (.int .i64 (hv:Int)) H10 H12∧Agree [.ptr (some ⟨db,0,0,0,6⟩)] [.ptr (some ⟨dc,0,0,0,6⟩)] H10 H11 (.int .i64 (hv:Int)) (.int .i64 (hv:Int)) H11 H12∧bif Nat.ble (H.next) (H12.next) && true then CallT Tryz.prog cnd 27 [.ptr (some ⟨da,0,0,0,6⟩)] (AHeap.mk (H12.next+16) (H12.2)) xv H13∧CallT Tryz.prog cnd 27 [.ptr (some ⟨dc,0,0,0,6⟩)] H13 yv H14∧CallT Tryz.prog cnd 28 [xv,yv] H14 (.bool true) H15∧CallT Tryz.prog cnd 16 [.ptr (some ⟨da,0,0,0,6⟩)] H15 (.int .i64 (hw:Int)) H16∧CallT Tryz.prog cnd 16 [.ptr (some ⟨dc,0,0,0,6⟩)] H16 (.int .i64 (hw:Int)) H17∧some (AVal.bool ((hw:Int) == (hw:Int)))=some (AVal.bool true)∧CallT Tryz.prog cnd 19 [] H17 (.bool true) H18∧Agree [.ptr (some ⟨da,0,0,0,6⟩)] [.ptr (some ⟨dc,0,0,0,6⟩)] (AHeap.mk (H12.next+16) (H12.2)) H13 xv yv H13 H14∧Agree [.ptr (some ⟨da,0,0,0,6⟩)] [.ptr (some ⟨dc,0,0,0,6⟩)] H15 H16 (.int .i64 (hw:Int)) (.int .i64 (hw:Int)) H16 H17∧bif Nat.ble (H.next) (H18.next)then K0 (.bool true) H18 else False else False else False else False else False else False else False else False else False else False else False else False else False else False) :
    ∃ v h1,FDoes Tryz.prog cnd 9 [.slice o n c] H v h1∧K0 v h1 :=
  tcall_does env_ok mixed specsL_ok (hs:= .hint (.keep [0,3,4]) (.hint (.loop [(0,.slice o n c),(3,x),(4,y)] H1 (.exit 0)) (.hint (.act 8000 (.ptr (some ⟨da,0,0,0,6⟩)) fun x=>H2) (.hint (.act 9000 (.ptr (some ⟨db,0,0,0,6⟩)) fun x=>H3) (.hint (.act 10000 (.ptr (some ⟨dc,0,0,0,6⟩)) fun x=>H4) (.hint (.keep [0,5,6,7,8,9,10,11]) (.hint (.loop [(0,.slice o n c),(5,.ptr (some ⟨da,0,0,0,6⟩)),(6,.ptr (some ⟨db,0,0,0,6⟩)),(7,.ptr (some ⟨dc,0,0,0,6⟩)),(8,av),(9,lv),(10,mv),(11,iv)] H5 (.exit 2)) (.hint (.act 27002 wv fun x=>H6) (.hint (.act 28002 (.bool true) fun x=>H7) (.hint (.act 28007 (.bool true) fun x=>H8) (.hint (.act 28012 (.int .i64 (hv:Int)) fun x=>H9) (.hint (.act 28014 (.int .i64 (hv:Int)) fun x=>H10) (.hint (.val 28015 (.bool false)) (.hint (.act 28019 (.int .i64 (hv:Int)) fun x=>H11) (.hint (.act 28021 (.int .i64 (hv:Int)) fun x=>H12) (.hint (.val 28022 (.bool false)) (.hint (.act 30001 xv fun x=>H13) (.hint (.act 30003 yv fun x=>H14) (.hint (.act 30004 (.bool true) fun x=>H15) (.hint (.act 30007 (.int .i64 (hw:Int)) fun x=>H16) (.hint (.act 30009 (.int .i64 (hw:Int)) fun x=>H17) (.hint (.val 30010 (.bool true)) (.hint (.act 30013 (.bool true) fun x=>H18) .nil))))))))))))))))))))))) (by kernel_rfl) vc
structure Mv(H H':AHeap)(col col':Nat→Nat)(L:List Nat):Prop where
  next:H.next≤H'.next
  get: ∀ x,x<H.next→col x ∉ L→H'.get x=H.get x
  col: ∀ x,x<H.next→col x ∉ L→col' x=col x
theorem Mv.trans {H H1 H2:AHeap}{c c1 c2:Nat→Nat}{L1 L2:List Nat}(a:Mv H H1 c c1 L1)(b:Mv H1 H2 c1 c2 L2):Mv H H2 c c2 (L1++L2) where
  next:=Nat.le_trans a.next b.next
  get x hx h:=by
    simp only [List.mem_append,not_or]at h
    have hn:=a.next
    rw [b.get x (by omega) (by rw [a.col x hx h.1];exact h.2),a.get x hx h.1]
  col x hx h:=by
    simp only [List.mem_append,not_or]at h
    have hn:=a.next
    rw [b.col x (by omega) (by rw [a.col x hx h.1];exact h.2),a.col x hx h.1]
theorem Mv.sub {H H':AHeap}{c c':Nat→Nat}{L M:List Nat}(a:Mv H H' c c' L)(h: ∀ x∈L,x∈M):Mv H H' c c' M where
  next:=a.next
  get x hx k:=a.get x hx fun q=>k (h _ q)
  col x hx k:=a.col x hx fun q=>k (h _ q)
theorem Mv.refl(H:AHeap)(c:Nat→Nat):Mv H H c c []:=⟨Nat.le_refl _,fun _ _ _=>rfl,fun _ _ _=>rfl⟩
def fresh(H:AHeap)(col:Nat→Nat):Nat→Nat:=fun x=>if x<H.next then col x else 8
theorem Mv.fresh(H:AHeap)(col:Nat→Nat)(k:Nat):Mv H ⟨H.next+k,H.blks⟩ col (fresh H col) [] where
  next:=by show H.next≤H.next+k;omega
  get _ _ _:=rfl
  col x hx _:=by unfold Proofs.YtddnafghiejcoaaGreatDoor.fresh;rw [if_pos hx]
theorem fresh_new {H:AHeap}{col:Nat→Nat}{x:Nat}(h:H.next≤x):fresh H col x=8:=by unfold fresh;rw [if_neg (by omega)]
def Own(d:Nat)(I:Ids)(x:Nat):Prop:=x=d∨x=I.u∨x=I.k∨x=I.p∨x=I.o
structure DC(H:AHeap)(col:Nat→Nat)(c d:Nat)(I:Ids)(s:DS):Prop where
  at':DAt H d I s []
  col: ∀ x,Own d I x→col x=c
theorem DC.lt {H:AHeap}{col:Nat→Nat}{c d:Nat}{I:Ids}{s:DS}(h:DC H col c d I s): ∀ x,Own d I x→x<H.next:=by
  obtain⟨ks,g,_⟩:=h.at'
  have:=g.lt
  intro x hx
  unfold Own at hx
  omega
theorem DC.mv {H H':AHeap}{col col':Nat→Nat}{c d:Nat}{I:Ids}{s:DS}{L:List Nat}(h:DC H col c d I s)(m:Mv H H' col col' L)(hc:c ∉ L):DC H' col' c d I s:=by
  have lt:=h.lt
  have hg: ∀ x,Own d I x→H'.get x=H.get x:=fun x hx=>m.get x (lt x hx) (by rw [h.col x hx];exact hc)
  refine⟨?_,fun x hx=>by rw [m.col x (lt x hx) (by rw [h.col x hx];exact hc)];exact h.col x hx⟩
  obtain⟨ks,g,hs⟩:=h.at'
  obtain⟨kv,pv,ov,ty,e,hk,hp,ho⟩:=g.ex
  obtain⟨j0,j1,j2,j3,uty,hu⟩:=g.us
  have hl:=g.lt
  have hn:=m.next
  exact⟨ks,⟨⟨kv,pv,ov,ty,by rw [hg d (.inl rfl)];exact e,hk.keep fun _=>hg _ (.inr (.inr (.inl rfl))),hp.keep fun _=>hg _ (.inr (.inr (.inr (.inl rfl)))),ho.keep fun _=>hg _ (.inr (.inr (.inr (.inr rfl))))⟩,⟨j0,j1,j2,j3,uty,by rw [hg I.u (.inr (.inl rfl))];exact hu⟩,by omega,g.ne⟩,hs⟩
structure GL(H:AHeap)(col:Nat→Nat)(c sz:Nat)(ty:Option (TypeId×Nat))(v:AVal)(l:List AVal):Prop where
  ex:(v= .slice none 0 0∧l= [])∨(l≠ []∧ ∃ o,o<H.next∧col o=c∧ ∃ ver m f,v= .slice (some ⟨o,ver,0,0,sz⟩) l.length l.length∧H.get o=some (gRowB l sz ver m f ty))
theorem GL.mv {H H':AHeap}{col col':Nat→Nat}{c sz:Nat}{ty:Option (TypeId×Nat)}{v:AVal}{l:List AVal}{L:List Nat}(h:GL H col c sz ty v l)(m:Mv H H' col col' L)(hc:c ∉ L):GL H' col' c sz ty v l:=by
  rcases h.ex with h | ⟨h1,o,h2,h3,ver,mm,f,h4,h5⟩
  · exact⟨.inl h⟩
  · have hn:=m.next
    exact⟨.inr ⟨h1,o,by omega,by rw [m.col o h2 (by rw [h3];exact hc)];exact h3,ver,mm,f,h4,by rw [m.get o h2 (by rw [h3];exact hc)];exact h5⟩⟩
theorem GL.elems {H:AHeap}{col:Nat→Nat}{c sz:Nat}{ty:Option (TypeId×Nat)}{v:AVal}{l:List AVal}(h:GL H col c sz ty v l):elemsOf sz v H=some l:=by
  rcases h.ex with ⟨rfl,rfl⟩ | ⟨h1,o,h2,h3,ver,mm,f,rfl,h5⟩
  · rfl
  · have hn:l.length≠0:=fun h=>h1 (List.length_eq_zero_iff.1 h)
    simp only [elemsOf,if_true,h5]
    rw [if_neg hn,if_pos ⟨by simp [ABlk.lim],by simp⟩]
    simp
theorem GL.nil(H:AHeap)(col:Nat→Nat)(c sz:Nat)(ty:Option (TypeId×Nat)):GL H col c sz ty (.slice none 0 0) []:=⟨.inl ⟨rfl,rfl⟩⟩
theorem GL.app {H:AHeap} {col:Nat→Nat} {c sz nid:Nat} {t e by':Nat} {v w:AVal} {l new:List AVal} (hs:SlTy env.D t e sz by') (g:GL H col c sz (some (e,0)) v l) (hn:nid<H.next) (kn:col nid=8) (hx:elemsOf sz w H=some new) (hb:((l.length+new.length)+(l.length+new.length) / 4+512)*by'≤2^48) (hl:l.length+new.length<2^62) :
    ∃ v' H' col',abuiltin env .append #[t,t] [v,w] nid H=some (v',H')∧GL H' col' c sz (some (e,0)) v' (l++new)∧Mv H H' col col' [c,8]∧H'.next=H.next:=by
  by_cases hnew:new= []
  · subst hnew
    refine⟨v,H,col,?_,by rw [List.append_nil];exact g,(Mv.refl H col).sub (by simp),rfl⟩
    rcases g.ex with ⟨rfl,rfl⟩ | ⟨h1,o,h2,h3,ver,mm,f,rfl,h5⟩
    · exact app_none (b:=ABlk.made [] 1 true) hs hx (by simpa using hb) (by decide) (fun a ha=>by cases ha) (Nat.le_refl _) (fun _=>rfl)
    · exact app_none hs hx (by simpa using hb) (by simpa using hl) (fun a ha=>by cases ha;exact⟨h5,rfl,rfl⟩) (Nat.le_refl _) (fun h=>by cases h)
  · rcases g.ex with ⟨rfl,rfl⟩ | ⟨h1,o,h2,h3,ver,mm,f,rfl,h5⟩
    · refine⟨_,_,fun x=>if x=nid then c else col x,app_new hs hx hnew (by simpa using hb) (by simpa using hl),⟨.inr ⟨by simpa using hnew,nid,hn,by simp,0,0,0,rfl,AHeap.get_set_self _ _ _⟩⟩,⟨Nat.le_refl _,fun x _ h=> ?_,fun x _ h=> ?_⟩,rfl⟩
      · refine AHeap.get_set_ne _ _ fun e=> ?_
        subst e
        rw [kn]at h
        simp at h
      · show(if x=nid then c else col x)=col x
        rw [if_neg]
        intro e
        subst e
        rw [kn]at h
        simp at h
    · have hpos:0<new.length:=List.length_pos_iff.2 hnew
      refine⟨_,_,col,app_grow hs hx hnew hb hl h5 ⟨rfl,rfl⟩ (by omega) rfl rfl rfl (by simp) (.inr rfl),⟨.inr ⟨by simp [h1],o,h2,h3,ver+1,mm,if mm=ver then l.length else min f l.length,by rw [List.length_append],AHeap.get_set_self _ _ _⟩⟩,⟨Nat.le_refl _,fun x _ h=> ?_,fun _ _ _=>rfl⟩,rfl⟩
      refine AHeap.get_set_ne _ _ fun e=> ?_
      subst e
      rw [h3]at h
      simp at h
theorem dc_step {H H':AHeap} {col:Nat→Nat} {c d:Nat} {I I':Ids} {s s':DS} (g:DC H col c d I s) (g':DAt H' d I' s' []) (fr:Fr H H' d I I') (P:Prop) [Decidable P] (o:Nat) (ho:P→Off o d I'∧(Own d I o∨H.next≤o)) :
    ∃ col',DC H' col' c d I' s'∧Mv H H' col col' [c]∧(P→col' o=7):=by
  have hlt:=g.lt
  refine⟨fun x=>if x=o∧P then 7 else if x<H.next then col x else c,⟨g',fun x hx=> ?_⟩,⟨fr.next,fun x hx h=> ?_,fun x hx h=> ?_⟩,fun hP=>by simp [hP]⟩
  · have hno: ¬ (x=o∧P):=by
      rintro ⟨rfl,hP⟩
      have:=(ho hP).1
      have q1:=this.d;have q2:=this.u;have q3:=this.k;have q4:=this.p;have q5:=this.o
      unfold Own at hx
      omega
    show(if x=o∧P then 7 else if x<H.next then col x else c)=c
    rw [if_neg hno]
    split
    · rename_i hl
      have hown:Own d I x:=by
        rcases hx with hx | hx
        · exact .inl hx
        · have:=fr.ids x hx
          unfold Own
          omega
      exact g.col x hown
    · rfl
  · have hn: ¬ Own d I x:=fun k=>h (by rw [g.col x k];simp)
    unfold Own at hn
    simp only [not_or]at hn
    exact fr.get x hx hn.1 hn.2.1 hn.2.2.1 hn.2.2.2.1 hn.2.2.2.2
  · show(if x=o∧P then 7 else if x<H.next then col x else c)=col x
    rw [if_neg,if_pos hx]
    rintro ⟨rfl,hP⟩
    rcases (ho hP).2 with k | k
    · exact h (by rw [g.col x k];simp)
    · omega
theorem evl_gl {H:AHeap}{col:Nat→Nat}{c:Nat}{v:AVal}{es:List Ev}{o:Nat}(h:EvL H v es o)(hc:es≠ []→col o=c):GL H col c 6 evTy v (es.map evA):=by
  rcases h with ⟨h1,h2⟩ | ⟨h1,h2,ver,m,f,h3,h4⟩
  · exact⟨.inl ⟨h1,by rw [h2];rfl⟩⟩
  · exact⟨.inr ⟨by simpa using h1,o,h2,hc h1,ver,m,f,by rw [List.length_map];exact h3,h4⟩⟩
theorem gl_evl {H:AHeap}{col:Nat→Nat}{c:Nat}{v:AVal}{es:List Ev}(h:GL H col c 6 evTy v (es.map evA)): ∃ o,EvL H v es o∧(es≠ []→col o=c):=by
  rcases h.ex with ⟨h1,h2⟩ | ⟨h1,o,h2,h3,ver,m,f,h4,h5⟩
  · have:es= []:=by simpa using h2
    exact⟨0,.inl ⟨h1,this⟩,fun h=>absurd this h⟩
  · exact⟨o,.inr ⟨by simpa using h1,h2,ver,m,f,by rw [List.length_map]at h4;exact h4,h5⟩,fun _=>h3⟩
theorem Mv.pad(H:AHeap)(col:Nat→Nat):Mv H ⟨H.next+1,H.blks⟩ col col []:=⟨by show H.next≤H.next+1;omega,fun _ _ _=>rfl,fun _ _ _=>rfl⟩
theorem next1 {f:FuncId}{args:List AVal}{h h':AHeap}{v:AVal}(k:FDoes Tryz.prog cnd f args h v h'):FDoes Tryz.prog cnd f args h v ⟨h'.next+1,h'.blks⟩:=k.pad (by show h'.next≤h'.next+1;omega) (fun _ _=>rfl)
structure BA(H:AHeap)(col:Nat→Nat)(c:Nat)(o:Option AAddr)(bs:Bytes):Prop where
  ex:(o=none∧bs= [])∨ ∃ q bv bo,o=some ⟨q,bv,bo,0,1⟩∧BAt H q bv bo bs∧q<H.next∧col q=c
theorem BA.mv {H H':AHeap}{col col':Nat→Nat}{c:Nat}{o:Option AAddr}{bs:Bytes}{L:List Nat}(h:BA H col c o bs)(m:Mv H H' col col' L)(hc:c ∉ L):BA H' col' c o bs:=by
  rcases h.ex with h | ⟨q,bv,bo,h1,h2,h3,h4⟩
  · exact⟨.inl h⟩
  · have hn:=m.next
    exact⟨.inr ⟨q,bv,bo,h1,h2.keep (m.get q h3 (by rw [h4];exact hc)),by omega,by rw [m.col q h3 (by rw [h4];exact hc)];exact h4⟩⟩
theorem BA.elems {H:AHeap}{col:Nat→Nat}{c n:Nat}{o:Option AAddr}{bs:Bytes}(h:BA H col c o bs):elemsOf 1 (.slice o bs.length n) H=some (bytesA bs):=by
  rcases h.ex with ⟨rfl,rfl⟩ | ⟨q,bv,bo,rfl,⟨b,h1,h2⟩,_⟩
  · rfl
  · have:=elemsOf_slice (sz:=1) (n:=bs.length) (c:=n) (f:=fun j=> .int .u8 ((bs.getD j 0).toNat:Int)) (.inl rfl:SlArg (some ⟨q,bv,bo,0,1⟩) bs.length n q bv bo 1) h1 (fun j hj=>by rw [h2 j hj];simp [List.getD_eq_getElem?_getD,hj])
    rw [this]
    congr 1
    apply List.ext_getElem?
    intro j
    by_cases hj:j<bs.length
    · simp [bytesA,hj,List.getD_eq_getElem?_getD]
    · simp [bytesA,hj]
theorem GL.ba {H:AHeap}{col:Nat→Nat}{c:Nat}{v:AVal}{bs:Bytes}(h:GL H col c 1 byteTy v (bytesA bs)): ∃ o,v= .slice o bs.length bs.length∧BA H col c o bs:=by
  rcases h.ex with ⟨rfl,h2⟩ | ⟨h1,o,h2,h3,ver,m,f,rfl,h5⟩
  · have:bs= []:=by simpa [bytesA]using h2
    subst this
    exact⟨none,rfl,⟨.inl ⟨rfl,rfl⟩⟩⟩
  · refine⟨_,by rw [len_bytesA],⟨.inr ⟨o,ver,0,rfl,⟨_,h5,fun j hj=> ?_⟩,h2,h3⟩⟩⟩
    simp [ABlk.elem?,ABlk.lim,bytesA,hj]
theorem DC.new(H:AHeap)(col:Nat→Nat)(c:Nat): ∃ H' d I col',FDoes Tryz.prog cnd 14 [] H (.ptr (some ⟨d,0,0,0,6⟩)) H'∧DC H' col' c d I s0∧Mv H H' col col' []:=by
  obtain⟨H',d,I,hd,g,n1,n2,n3,n4,n5,n6,n7⟩:=new_does H
  refine⟨H',d,I,fun x=>if x<H.next then col x else c,hd,⟨g,fun x hx=> ?_⟩,⟨n6,fun x hx _=>n7 x hx,fun x hx _=>if_pos hx⟩⟩
  unfold Own at hx
  exact if_neg (by omega)
theorem DC.held {H:AHeap}{col:Nat→Nat}{c d:Nat}{I:Ids}{s:DS}(g:DC H col c d I s)(hk:s.kept.length<2^40)(hp:s.paste.length<2^40): ∃ H' I' col',FDoes Tryz.prog cnd 16 [.ptr (some ⟨d,0,0,0,6⟩)] H (.int .i64 (held s:Nat)) H'∧DC H' col' c d I' s∧Mv H H' col col' [c]∧H.next<H'.next:=by
  obtain⟨H',hd,I',g',fr⟩:=held_does g.at' hk hp
  obtain⟨col',q1,q2,_⟩:=dc_step g g' fr False 0 (fun h=>h.elim)
  have hn:=fr.next
  exact⟨_,I',col',next1 hd,q1.mv (Mv.pad H' col') (by simp),(q2.trans (Mv.pad H' col')).sub (by simp),by show H.next<H'.next+1;omega⟩
theorem DC.flush {H:AHeap}{col:Nat→Nat}{c d:Nat}{I:Ids}{s:DS}(g:DC H col c d I s)(hG:Keys.Good s)(hk:s.kept.length<2^40): ∃ H' v I' col',FDoes Tryz.prog cnd 27 [.ptr (some ⟨d,0,0,0,6⟩)] H v H'∧DC H' col' c d I' (Keys.flush s).1∧GL H' col' 7 6 evTy v ((Keys.flush s).2.map evA)∧Mv H H' col col' [c]∧H.next<H'.next:=by
  obtain⟨H',v,I',o,hd,g',fr,he,hoff⟩:=flush_does g.at' hG hk
  obtain⟨col',q1,q2,q3⟩:=dc_step g g' fr ((Keys.flush s).2≠ []) o (fun h=>by
    have k:=hoff h
    have hdo:=k.off.d
    refine⟨k.off,?_⟩
    have:=k.of
    unfold Own
    omega)
  have hn:=fr.next
  exact⟨_,v,I',col',next1 hd,q1.mv (Mv.pad H' col') (by simp),(evl_gl he q3).mv (Mv.pad H' col') (by simp),(q2.trans (Mv.pad H' col')).sub (by simp),by show H.next<H'.next+1;omega⟩
theorem DC.feed {H:AHeap}{col:Nat→Nat}{c c2 d m:Nat}{I:Ids}{s:DS}{bs:Bytes}{o:Option AAddr}(g:DC H col c d I s)(hG:Keys.Good s)(hn:bs.length<2^28)(ha:BA H col c2 o bs)(hc:c2≠c): ∃ H' v I' col',FDoes Tryz.prog cnd 26 [.ptr (some ⟨d,0,0,0,6⟩),.slice o bs.length m] H v H'∧DC H' col' c d I' (feedAll s bs).1∧GL H' col' 7 6 evTy v ((feedAll s bs).2.map evA)∧Mv H H' col col' [c]:=by
  have harg:BArg H d I o bs:=by
    rcases ha.ex with h | ⟨q,bv,bo,h1,h2,h3,h4⟩
    · exact .inl h
    · have hne: ∀ x,Own d I x→q≠x:=fun x hx e=>hc (by rw [← h4,e];exact g.col x hx)
      exact .inr ⟨q,bv,bo,h1,h2,h3,⟨hne _ (.inl rfl),hne _ (.inr (.inl rfl)),hne _ (.inr (.inr (.inl rfl))),hne _ (.inr (.inr (.inr (.inl rfl)))),hne _ (.inr (.inr (.inr (.inr rfl))))⟩⟩
  obtain⟨H',v,I',o',hd,g',fr,he,hoff⟩:=feed_does (m:=m) g.at' hG hn harg
  obtain⟨col',q1,q2,q3⟩:=dc_step g g' fr ((feedAll s bs).2≠ []) o' (fun h=>by
    have k:=hoff h
    have hdo:=k.1.d
    refine⟨k.1,?_⟩
    have:=k.2
    unfold Own
    omega)
  exact⟨H',v,I',col',hd,q1,evl_gl he q3,q2⟩
theorem GL.same {H:AHeap}{col:Nat→Nat}{c1 c2:Nat}{v1 v2:AVal}{es fs:List Ev}(h1:GL H col c1 6 evTy v1 (es.map evA))(h2:GL H col c2 6 evTy v2 (fs.map evA))(hc:c1≠c2)(hn:es.length<2^62) :
    ∃ H',FDoes Tryz.prog cnd 28 [v1,v2] H (.bool (decide (es=fs))) H'∧Mv H H' col col []∧H.next<H'.next:=by
  obtain⟨o1,e1,k1⟩:=gl_evl h1
  obtain⟨o2,e2,k2⟩:=gl_evl h2
  obtain⟨H',hd,q1,q2⟩:=same_does e1 e2 (fun n1 n2 e=>hc (by rw [← k1 n1,← k2 n2,e])) hn
  exact⟨_,next1 hd,⟨by show H.next≤H'.next+1;omega,fun x _ _=>q2 x,fun _ _ _=>rfl⟩,by show H.next<H'.next+1;omega⟩
theorem slEv:SlTy env.D 56 42 6 48:=by
  have h1:(env.D 42).map (fun x=>(x.size,x.bytes,x.zeroFits))=some (6,48,true):=by kernel_rfl
  have h2:(env.D 56).map (fun x=>x.kind)=some (.slice 42):=by kernel_rfl
  obtain⟨x,hx,k⟩:=Option.map_eq_some_iff.1 h1
  obtain⟨d,hd,kd⟩:=Option.map_eq_some_iff.1 h2
  simp only [Prod.mk.injEq]at k
  exact⟨d,x,hd,kd,hx,k.1,k.2.1,by decide,k.2.2⟩
theorem slBy:SlTy env.D 34 5 1 1:=by
  have h1:(env.D 5).map (fun x=>(x.size,x.bytes,x.zeroFits))=some (1,1,true):=by kernel_rfl
  have h2:(env.D 34).map (fun x=>x.kind)=some (.slice 5):=by kernel_rfl
  obtain⟨x,hx,k⟩:=Option.map_eq_some_iff.1 h1
  obtain⟨d,hd,kd⟩:=Option.map_eq_some_iff.1 h2
  simp only [Prod.mk.injEq]at k
  exact⟨d,x,hd,kd,hx,k.1,k.2.1,by decide,k.2.2⟩
theorem DC.feedApp {H:AHeap}{col:Nat→Nat}{c c2 ct d m nid:Nat}{I:Ids}{s:DS}{bs:Bytes}{o:Option AAddr}{lv:AVal}{es:List Ev}(hs:SlTy env.D 56 42 6 48)(g:DC H col c d I s)(hG:Keys.Good s)(hn:bs.length<2^28)(ha:BA H col c2 o bs)(hc:c2≠c)(hl:GL H col ct 6 evTy lv (es.map evA))(h1:ct≠c)(h2:ct≠7)(h3:c≠8)(h7:c≠7)(hnid:nid<H.next)(kn:col nid=8)(hes:es.length+2*bs.length<2^30) :
    ∃ fv H3 lv2 H4 I' col',FDoes Tryz.prog cnd 26 [.ptr (some ⟨d,0,0,0,6⟩),.slice o bs.length m] H fv H3∧abuiltin env .append #[56,56] [lv,fv] nid H3=some (lv2,H4)∧DC H4 col' c d I' (feedAll s bs).1∧GL H4 col' ct 6 evTy lv2 ((es++(feedAll s bs).2).map evA)∧Mv H H4 col col' [c,ct,8]:=by
  obtain⟨H3,fv,I',col1,hd,g1,hv,mv1⟩:=g.feed (m:=m) hG hn ha hc
  have hl1:=hl.mv mv1 (by simp;exact h1)
  have hn1:=mv1.next
  have kn1:col1 nid=8:=by rw [mv1.col nid hnid (by rw [kn];simp;omega)];exact kn
  have hfew:=few_feedAll bs s
  obtain⟨lv2,H4,col2,hap,g2,mv2,hnx⟩:=hl1.app hs (by omega) kn1 hv.elems (by simp only [List.length_map];omega) (by simp only [List.length_map];omega)
  refine⟨fv,H3,lv2,H4,I',col2,hd,hap,?_,by rw [List.map_append];exact g2,(mv1.trans mv2).sub (by simp)⟩
  refine g1.mv mv2 ?_
  simp only [List.mem_cons,List.mem_nil_iff,or_false,not_or]
  exact⟨fun e=>h1 e.symm,h3⟩
end Go.Proofs.YtddnafghiejcoaaGreatDoor
namespace Go.Keys
theorem good_small {s:DS}(h:Good s):s.kept.length<2^40∧s.paste.length<2^40:=by
  obtain⟨nx,kept,hold,paste⟩:=s
  cases nx with
  | ground=>obtain⟨a,b,c⟩:=h;simp only at a c;subst a c;simp
  | escape=>obtain⟨a,b,c⟩:=h;simp only at a c;subst a c;simp
  | char =>
    obtain⟨a,b,c,d,e⟩:=h
    simp only at a b d
    subst a
    have:=at_le1 kept
    have hl:hold.length=kept.length-at' kept:=by rw [b];simp
    refine⟨?_,by simp⟩
    show kept.length<_
    omega
  | sequence=>obtain⟨a,b,c,d⟩:=h;simp only at b d;subst b;exact⟨Nat.lt_of_lt_of_le d (by decide),by simp⟩
  | single=>obtain⟨a,b,c⟩:=h;simp only at b c;subst b c;simp
  | pasted=>obtain⟨a,b,c,d⟩:=h;simp only at b d;exact⟨Nat.lt_of_lt_of_le b (by decide),Nat.lt_of_le_of_lt d (by decide)⟩
end Go.Keys
namespace Go.Proofs.YtddnafghiejcoaaGreatDoor
open Go.Lift Go.Keys
set_option maxRecDepth 1000000
structure PcAt(H:AHeap)(col:Nat→Nat)(q bv bo:Nat)(ps:List Bytes):Prop where
  ok:ps≠ []→q<H.next∧col q=0∧ ∃ b,H.get q=some b∧ ∀ (r:Nat) (h:r<ps.length),∃ po pc,b.elem? bv (bo+r)=some (.slice po ps[r].length pc)∧BA H col 0 po ps[r]
theorem PcAt.mv {H H':AHeap}{col col':Nat→Nat}{q bv bo:Nat}{ps:List Bytes}{L:List Nat}(h:PcAt H col q bv bo ps)(m:Mv H H' col col' L)(hc:0 ∉ L):PcAt H' col' q bv bo ps:=by
  refine⟨fun hne=> ?_⟩
  obtain⟨lt,cq,b,hb,hr⟩:=h.ok hne
  have hn:=m.next
  refine⟨by omega,by rw [m.col q lt (by rw [cq];exact hc)];exact cq,b,by rw [m.get q lt (by rw [cq];exact hc)];exact hb,fun r h=> ?_⟩
  obtain⟨po,pc,h1,h2⟩:=hr r h
  exact⟨po,pc,h1,h2.mv m hc⟩
theorem load_slice {h:AHeap}{q v i:Nat}{b:ABlk}{o:Option AAddr}{n c:Nat}(e:h.get q=some b)(he:b.elem? v i=some (.slice o n c)):aload (AEnv.D env) 34 ⟨q,v,i,0,1⟩ h=some (.slice o n c):=by
  have hD:(AEnv.D env 34).map (fun d=>d.kind.isAgg)=some false:=by kernel_rfl
  obtain⟨x,h1,h2⟩:=Option.map_eq_some_iff.1 hD
  unfold aload
  rw [h1,e]
  simp only [he,loadElem,h2,Bool.false_eq_true,if_false,if_true]
theorem PcAt.load {H:AHeap}{col:Nat→Nat}{q bv bo:Nat}{ps:List Bytes}(h:PcAt H col q bv bo ps)(r:Nat)(hr:r<ps.length): ∃ po pc,BA H col 0 po ps[r]∧ ∀ k,aload (AEnv.D env) 34 ⟨q,bv,bo+Int.toNat (r:Int),0,1⟩ ⟨H.next+k,H.blks⟩=some (.slice po ps[r].length pc):=by
  obtain⟨_,_,b,hb,hx⟩:=h.ok (fun e=>by rw [e]at hr;simp at hr)
  obtain⟨po,pc,h1,h2⟩:=hx r hr
  refine⟨po,pc,h2,fun k=> ?_⟩
  rw [show bo+Int.toNat (r:Int)=bo+r by simp]
  exact load_slice (h:=⟨H.next+k,H.blks⟩) hb h1
structure Inv(H:AHeap)(col:Nat→Nat)(q bv bo:Nat)(ps:List Bytes)(da db dc:Nat)(Ia Ib Ic:Ids)(X W V:Bytes)(av lv mv:AVal):Prop where
  pc:PcAt H col q bv bo ps
  a:DC H col 1 da Ia (feedAll s0 W).1
  b:DC H col 2 db Ib (feedAll s0 V).1
  c:DC H col 3 dc Ic s0
  al:GL H col 4 1 byteTy av (bytesA X)
  l:GL H col 5 6 evTy lv ((feedAll s0 W).2.map evA)
  m:GL H col 6 6 evTy mv ((feedAll s0 V).2.map evA)
theorem Inv.mv {H H':AHeap}{col col':Nat→Nat}{q bv bo:Nat}{ps:List Bytes}{da db dc:Nat}{Ia Ib Ic:Ids}{X W V:Bytes}{av lv mv:AVal}{L:List Nat}(h:Inv H col q bv bo ps da db dc Ia Ib Ic X W V av lv mv)(m:Mv H H' col col' L)(hc: ∀ x∈L,6<x):Inv H' col' q bv bo ps da db dc Ia Ib Ic X W V av lv mv:=by
  have no: ∀ k,k≤6→k ∉ L:=fun k hk h=>by have:=hc k h;omega
  exact⟨h.pc.mv m (no _ (by omega)),h.a.mv m (no _ (by omega)),h.b.mv m (no _ (by omega)),h.c.mv m (no _ (by omega)),h.al.mv m (no _ (by omega)),h.l.mv m (no _ (by omega)),h.m.mv m (no _ (by omega))⟩
abbrev piF(q bv bo n c da db dc:Nat)(av lv mv:AVal)(i k:Nat):Facts:= [(0,.slice (some ⟨q,bv,bo,0,1⟩) n c),(5,.ptr (some ⟨da,0,0,0,6⟩)),(6,.ptr (some ⟨db,0,0,0,6⟩)),(7,.ptr (some ⟨dc,0,0,0,6⟩)),(8,av),(9,lv),(10,mv),(11,.int .i64 (i:Nat)),(13,.int .i64 (k:Nat))]
abbrev pmF(q bv bo n c da db dc:Nat)(av lv mv:AVal)(i:Nat):Facts:= [(0,.slice (some ⟨q,bv,bo,0,1⟩) n c),(5,.ptr (some ⟨da,0,0,0,6⟩)),(6,.ptr (some ⟨db,0,0,0,6⟩)),(7,.ptr (some ⟨dc,0,0,0,6⟩)),(8,av),(9,lv),(10,mv),(11,.int .i64 (i:Nat))]
theorem one_row(H:AHeap)(col:Nat→Nat)(y:Nat)(x:UInt8)(hy:y<H.next)(ky:col y=8):BA (H.set y (ABlk.made [.int .u8 (x.toNat:Int)] 1 true)) (fun z=>if z=y then 9 else col z) 9 (some ⟨y,0,0,0,1⟩) [x]∧Mv H (H.set y (ABlk.made [.int .u8 (x.toNat:Int)] 1 true)) col (fun z=>if z=y then 9 else col z) [8]:=by
  refine⟨⟨.inr ⟨y,0,0,rfl,⟨_,AHeap.get_set_self _ _ _,made_byte [x] true⟩,hy,by simp⟩⟩,⟨Nat.le_refl _,fun z _ h=>AHeap.get_set_ne _ _ fun e=> ?_,fun z _ h=> ?_⟩⟩
  · subst e
    rw [ky]at h;simp at h
  · show(if z=y then 9 else col z)=col z
    rw [if_neg]
    intro e
    subst e
    rw [ky]at h;simp at h
theorem build_one(H:AHeap)(y:Nat)(z:Int):abuildSlice (AEnv.D env) 34 1 [(0,.int .u8 z)] y H=some (.slice (some ⟨y,0,0,0,1⟩) 1 1,H.set y (ABlk.made [.int .u8 z] 1 true)):=by kernel_rfl
theorem build_start {F:Facts}{k nid:Nat}{v:AVal}{H:AHeap}(hF:getF F (.tmp k)=v):aop env noCall nid (getF F) H (Op.buildSlice 34 1 {toList:= [(0,Operand.tmp k)]})=abuildSlice (AEnv.D env) 34 1 [(0,v)] nid H:=by
  rw [← hF];rfl
theorem pi_round {H:AHeap}{col:Nat→Nat}{B q bv bo c i k:Nat}{ps:List Bytes}{da db dc:Nat}{Ia Ib Ic:Ids}{X W V:Bytes}{av lv mv:AVal}(hB:B≤H.next)(g:Inv H col q bv bo ps da db dc Ia Ib Ic X W V av lv mv)(hi:i<ps.length)(hn:ps.length<2^62)(hk:k<ps[i].length)(hl:ps[i].length<2^60)(hV:V.length<2^28) :
    ∃ H' col' Ib' mv',Runs Tryz.prog cnd B 129 (loopAt Tryz.prog 9 2) (piF q bv bo ps.length c da db dc av lv mv i k) H .normal (piF q bv bo ps.length c da db dc av lv mv' i (k+1)) H'∧Inv H' col' q bv bo ps da db dc Ia Ib' Ic X W (V++ [ps[i][k]]) av lv mv'∧H.next≤H'.next:=by
  obtain⟨po,pc,hba,hld⟩:=g.pc.load i hi
  rcases hba.ex with ⟨_,he⟩ | ⟨r,rv,ro,rfl,hbt,hr,_⟩
  · rw [he]at hk;simp at hk
  obtain⟨b,hb,hbx⟩:=hbt
  have hx: ∀ j,aload (AEnv.D env) 5 ⟨r,rv,ro+Int.toNat (k:Int),0,1⟩ ⟨H.next+j,H.blks⟩=some (.int .u8 (ps[i][k].toNat:Int)):=fun j=>by
    rw [show ro+Int.toNat (k:Int)=ro+k by simp]
    exact load_byte (h:=⟨H.next+j,H.blks⟩) hb (hbx k hk)
  have m0:=Mv.fresh H col 16
  have g0:=g.mv m0 (by simp)
  obtain⟨one,m1⟩:=one_row ⟨H.next+16,H.blks⟩ (fresh H col) (H.next+14) ps[i][k] (by show H.next+14<H.next+16;omega) (fresh_new (by omega))
  have g1:=g0.mv m1 (by simp)
  have hbuild: ∀ F,getF F (.tmp 80)= .int .u8 (ps[i][k].toNat:Int)→aop env noCall (H.next+14) (getF F) ⟨H.next+16,H.blks⟩ (Op.buildSlice 34 1 {toList:= [(0,Operand.tmp 80)]})=some (.slice (some ⟨H.next+14,0,0,0,1⟩) 1 1,(⟨H.next+16,H.blks⟩:AHeap).set (H.next+14) (ABlk.made [.int .u8 (ps[i][k].toNat:Int)] 1 true)):=by
    intro F hF
    exact(build_start hF).trans (build_one _ _ _)
  have hn1:((⟨H.next+16,H.blks⟩:AHeap).set (H.next+14) (ABlk.made [.int .u8 (ps[i][k].toNat:Int)] 1 true)).next=H.next+16:=rfl
  generalize hH1:(⟨H.next+16,H.blks⟩:AHeap).set (H.next+14) (ABlk.made [.int .u8 (ps[i][k].toNat:Int)] 1 true)=H1 at one m1 g1 hbuild hn1
  generalize hc1:(fun z=>if z=H.next+14 then 9 else fresh H col z)=col1 at one m1 g1
  have m2:=Mv.fresh H1 col1 6
  have g2:=g1.mv m2 (by simp)
  have one2:=one.mv m2 (by simp)
  have hfew:=few_feedAll V s0
  obtain⟨fv,H2,mv2,H3,Ib',col3,hfeed,happ,q1,q2,m3⟩:=g2.b.feedApp (m:=1) (nid:=H1.next+4) slEv (good_feedAll V good0) (by simp) one2 (by decide) g2.m (by decide) (by decide) (by decide) (by decide) (by show H1.next+4<H1.next+6;omega) (fresh_new (by omega)) (by simp only [List.length_cons,List.length_nil];omega)
  have n3:H1.next+6≤H3.next:=m3.next
  have m4:=Mv.fresh H3 col3 3
  have hap:=feedAll_append s0 V [ps[i][k]]
  have hV1:(feedAll s0 (V++ [ps[i][k]])).1=(feedAll (feedAll s0 V).1 [ps[i][k]]).1:=by rw [hap]
  have hV2:(feedAll s0 (V++ [ps[i][k]])).2=(feedAll s0 V).2++(feedAll (feedAll s0 V).1 [ps[i][k]]).2:=by rw [hap]
  have gg:Inv H3 col3 q bv bo ps da db dc Ia Ib' Ic X W (V++ [ps[i][k]]) av lv mv2:=by
    refine⟨g2.pc.mv m3 (by decide),g2.a.mv m3 (by decide),?_,g2.c.mv m3 (by decide),g2.al.mv m3 (by decide),g2.l.mv m3 (by decide),?_⟩
    · rw [hV1];exact q1
    · rw [hV2];exact q2
  obtain⟨e,F1,h1,hr,rfl,rfl,rfl⟩:=pi_vp H H1 H2 H3 B q bv bo ps.length c i k r rv ro ps[i].length pc ps[i][k].toNat (H.next+14) da db dc av lv mv fv mv2 (fun e F1 h1=>e= .normal∧F1=piF q bv bo ps.length c da db dc av lv mv2 i (k+1)∧h1=⟨H3.next+3,H3.blks⟩)
    (bif_ble hB ⟨⟨by omega,by omega⟩,hld 7,fun _=>bif_ble (by omega) ⟨⟨by omega,by omega⟩,hld 16,⟨by omega,by omega⟩,hx 16,hbuild _ rfl,bif_ble (by omega) ⟨⟨hfeed⟩,happ,bif_ble (by omega) ⟨⟨by omega,by omega⟩,rfl,by rw [show((k:Int)+1)=((k+1:Nat):Int)by omega],rfl⟩⟩⟩,fun h=>absurd (by omega) h⟩)
  exact⟨_,_,Ib',mv2,hr,gg.mv m4 (by simp),by show H.next≤H3.next+3;omega⟩
theorem pi_loop {B q bv bo c i:Nat}{ps:List Bytes}{da db dc:Nat}{Ia Ic:Ids}{X W:Bytes}{av lv:AVal}(hi:i<ps.length)(hn:ps.length<2^62)(hl:ps[i].length<2^60): ∀ (t k:Nat) (H:AHeap) (col:Nat→Nat) (Ib:Ids) (V:Bytes) (mv:AVal),ps[i].length-k≤t→k≤ps[i].length→B≤H.next→Inv H col q bv bo ps da db dc Ia Ib Ic X W V av lv mv→V.length+(ps[i].length-k)<2^28→(k=0∨ps[i]≠ []) →
    ∃ H' col' Ib' mv',Loops Tryz.prog cnd B 129 (loopAt Tryz.prog 9 2) (piF q bv bo ps.length c da db dc av lv mv i k) H (.exit 4) (piF q bv bo ps.length c da db dc av lv mv' i ps[i].length) H'∧Inv H' col' q bv bo ps da db dc Ia Ib' Ic X W (V++ps[i].drop k) av lv mv'∧H.next≤H'.next:=by
  intro t
  have fin: ∀ (H:AHeap) (col:Nat→Nat) (Ib:Ids) (V:Bytes) (mv:AVal),B≤H.next→Inv H col q bv bo ps da db dc Ia Ib Ic X W V av lv mv →
      ∃ H' col' Ib' mv',Loops Tryz.prog cnd B 129 (loopAt Tryz.prog 9 2) (piF q bv bo ps.length c da db dc av lv mv i ps[i].length) H (.exit 4) (piF q bv bo ps.length c da db dc av lv mv' i ps[i].length) H'∧Inv H' col' q bv bo ps da db dc Ia Ib' Ic X W (V++ps[i].drop ps[i].length) av lv mv'∧H.next≤H'.next:=by
    intro H col Ib V mv hB g
    obtain⟨po,pc,hba,hld⟩:=g.pc.load i hi
    have m:=Mv.fresh H col 7
    refine⟨⟨H.next+7,H.blks⟩,_,Ib,mv,?_,by rw [List.drop_length,List.append_nil];exact g.mv m (by simp),by show H.next≤H.next+7;omega⟩
    rcases hba.ex with ⟨rfl,he⟩ | ⟨r,rv,ro,rfl,hbt,hr,_⟩
    · have h0:ps[i].length=0:=by rw [he];rfl
      have l7:=hld 7
      rw [h0]at l7 ⊢
      obtain⟨e,F1,h1,hr,rfl,rfl,rfl⟩:=pi0_vp H B q bv bo ps.length c i pc da db dc av lv mv (fun e F1 h1=>e= .exit 4∧F1=piF q bv bo ps.length c da db dc av lv mv i 0∧h1=⟨H.next+7,H.blks⟩) (bif_ble hB ⟨⟨by omega,by omega⟩,l7,rfl,rfl,rfl⟩)
      exact Loops.last (by simp) hr
    · obtain⟨e,F1,h1,hr,rfl,rfl,rfl⟩:=pi_vp H H H H B q bv bo ps.length c i ps[i].length r rv ro ps[i].length pc 0 0 da db dc av lv mv .undef .undef (fun e F1 h1=>e= .exit 4∧F1=piF q bv bo ps.length c da db dc av lv mv i ps[i].length∧h1=⟨H.next+7,H.blks⟩) (bif_ble hB ⟨⟨by omega,by omega⟩,hld 7,fun h=>by omega,fun _=>⟨rfl,rfl,rfl⟩⟩)
      exact Loops.last (by simp) hr
  induction t with
  | zero =>
    intro k H col Ib V mv ht hk hB g hV _
    obtain rfl:k=ps[i].length:=by omega
    exact fin H col Ib V mv hB g
  | succ t ih =>
    intro k H col Ib V mv ht hk hB g hV hz
    by_cases hc:k<ps[i].length
    · obtain⟨H1,col1,Ib1,mv1,hr,g1,n1⟩:=pi_round hB g hi hn hc hl (by omega)
      obtain⟨H2,col2,Ib2,mv2,hL,g2,n2⟩:=ih (k+1) H1 col1 Ib1 (V++ [ps[i][k]]) mv1 (by omega) (by omega) (by omega) g1 (by simp only [List.length_append,List.length_cons,List.length_nil];omega) (.inr fun h=>by rw [h]at hc;simp at hc)
      refine⟨H2,col2,Ib2,mv2,Loops.step hr hL,?_,by omega⟩
      rw [List.drop_eq_getElem_cons hc]
      rw [List.append_assoc]at g2
      exact g2
    · obtain rfl:k=ps[i].length:=by omega
      exact fin H col Ib V mv hB g
theorem pm_round {H:AHeap}{col:Nat→Nat}{B q bv bo c i:Nat}{ps:List Bytes}{da db dc:Nat}{Ia Ib Ic:Ids}{X:Bytes}{av lv mv:AVal}(hB:B≤H.next)(g:Inv H col q bv bo ps da db dc Ia Ib Ic X X X av lv mv)(hi:i<ps.length)(hn:ps.length<2^62)(hX:X.length+ps[i].length<2^28) :
    ∃ H' col' Ia' Ib' av' lv' mv',Runs Tryz.prog cnd B 129 (loopAt Tryz.prog 9 1) (pmF q bv bo ps.length c da db dc av lv mv i) H .normal (pmF q bv bo ps.length c da db dc av' lv' mv' (i+1)) H'∧Inv H' col' q bv bo ps da db dc Ia' Ib' Ic (X++ps[i]) (X++ps[i]) (X++ps[i]) av' lv' mv'∧H.next≤H'.next:=by
  obtain⟨po,pc,hba,hld⟩:=g.pc.load i hi
  have m0:=Mv.fresh H col 12
  have g0:=g.mv m0 (by simp)
  have ba0:=hba.mv m0 (by simp)
  obtain⟨pv,H1,col1,hap1,p1,m1,e1⟩:=(GL.nil ⟨H.next+12,H.blks⟩ (fresh H col) 9 1 byteTy).app (nid:=H.next+10) slBy (by show H.next+10<H.next+12;omega) (fresh_new (by omega)) (ba0.elems (n:=pc)) (by simp only [List.length_nil,len_bytesA];omega) (by simp only [List.length_nil,len_bytesA];omega)
  have e1:H1.next=H.next+12:=e1
  rw [List.nil_append]at p1
  have g1:=g0.mv m1 (by simp)
  have m2:=Mv.fresh H1 col1 4
  have g2:=g1.mv m2 (by simp)
  have p2:=p1.mv m2 (by simp)
  obtain⟨av2,H2,col2,hap2,a2,m3,e2⟩:=g2.al.app (nid:=H1.next+2) slBy (by show H1.next+2<H1.next+4;omega) (fresh_new (by omega)) p2.elems (by simp only [len_bytesA];omega) (by simp only [len_bytesA];omega)
  have e2:H2.next=H1.next+4:=e2
  rw [← bytesA_app]at a2
  have p3:=p2.mv m3 (by simp)
  have g3:Inv H2 col2 q bv bo ps da db dc Ia Ib Ic (X++ps[i]) X X av2 lv mv:=⟨g2.pc.mv m3 (by decide),g2.a.mv m3 (by decide),g2.b.mv m3 (by decide),g2.c.mv m3 (by decide),a2,g2.l.mv m3 (by decide),g2.m.mv m3 (by decide)⟩
  have m4:=Mv.fresh H2 col2 6
  have g4:=g3.mv m4 (by simp)
  have p4:=p3.mv m4 (by simp)
  obtain⟨o,rfl,ba4⟩:=p4.ba
  have hfew:=few_feedAll X s0
  obtain⟨fv,H3,lv2,H4,Ia',col4,hfeed,happ,q1,q2,m5⟩:=g4.a.feedApp (m:=ps[i].length) (nid:=H2.next+4) slEv (good_feedAll X good0) (by omega) ba4 (by decide) g4.l (by decide) (by decide) (by decide) (by decide) (by show H2.next+4<H2.next+6;omega) (fresh_new (by omega)) (by omega)
  have n5:H2.next+6≤H4.next:=m5.next
  have hap:=feedAll_append s0 X ps[i]
  have hV1:(feedAll s0 (X++ps[i])).1=(feedAll (feedAll s0 X).1 ps[i]).1:=by rw [hap]
  have hV2:(feedAll s0 (X++ps[i])).2=(feedAll s0 X).2++(feedAll (feedAll s0 X).1 ps[i]).2:=by rw [hap]
  have g5:Inv H4 col4 q bv bo ps da db dc Ia' Ib Ic (X++ps[i]) (X++ps[i]) X av2 lv2 mv:=by
    refine⟨g4.pc.mv m5 (by decide),?_,g4.b.mv m5 (by decide),g4.c.mv m5 (by decide),g4.al.mv m5 (by decide),?_,g4.m.mv m5 (by decide)⟩
    · rw [hV1];exact q1
    · rw [hV2];exact q2
  have m6:=Mv.fresh H4 col4 1
  have g6:=g5.mv m6 (by simp)
  obtain⟨H5,col5,Ib',mv2,hL,g7,n7⟩:=pi_loop (B:=B) (c:=c) hi hn (by omega) ps[i].length 0 ⟨H4.next+1,H4.blks⟩ _ Ib X mv (by omega) (by omega) (by show B≤H4.next+1;omega) g6 (by omega) (.inl rfl)
  have n7:H4.next+1≤H5.next:=n7
  rw [List.drop_zero]at g7
  have m8:=Mv.fresh H5 col5 3
  obtain⟨e,F1,h1,hr,rfl,rfl,rfl⟩:=pm_vp H H1 H2 H3 H4 H5 B q bv bo ps.length c i ps[i].length pc po da db dc av lv mv _ fv av2 lv2 mv2 (.int .i64 (ps[i].length:Nat)) (fun e F1 h1=>e= .normal∧F1=pmF q bv bo ps.length c da db dc av2 lv2 mv2 (i+1)∧h1=⟨H5.next+3,H5.blks⟩)
    (bif_ble hB ⟨fun _=>bif_ble (by omega) (bif_ble (by omega) ⟨⟨by omega,by omega⟩,hld 12,hap1,bif_ble (by omega) ⟨hap2,bif_ble (by omega) ⟨⟨hfeed⟩,happ,bif_ble (by omega) ⟨Runs.of_loops hL,bif_ble (by omega) ⟨⟨by omega,by omega⟩,rfl,by rw [show((i:Int)+1)=((i+1:Nat):Int)by omega],rfl⟩⟩⟩⟩⟩),fun h=>absurd (by omega) h⟩)
  exact⟨_,_,Ia',Ib',av2,lv2,mv2,hr,g7.mv m8 (by simp),by show H.next≤H5.next+3;omega⟩
theorem flat_take {ps:List Bytes}{i:Nat}(hi:i<ps.length):(ps.take (i+1)).flatten=(ps.take i).flatten++ps[i]:=by
  rw [List.take_succ_eq_append_getElem hi,List.flatten_append]
  simp
theorem flat_len {ps:List Bytes}{i:Nat}(hi:i<ps.length):(ps.take i).flatten.length+ps[i].length≤ps.flatten.length:=by
  have h:=flat_take hi
  have h2:ps.flatten=(ps.take (i+1)).flatten++(ps.drop (i+1)).flatten:=by rw [← List.flatten_append,List.take_append_drop]
  rw [h2,h]
  simp only [List.length_append]
  omega
theorem pm_loop {B q bv bo c:Nat}{ps:List Bytes}{da db dc:Nat}{Ic:Ids}(hn:ps.length<2^62)(ht:ps.flatten.length<2^28): ∀ (t i:Nat) (H:AHeap) (col:Nat→Nat) (Ia Ib:Ids) (av lv mv:AVal),ps.length-i≤t→i≤ps.length→B≤H.next→Inv H col q bv bo ps da db dc Ia Ib Ic (ps.take i).flatten (ps.take i).flatten (ps.take i).flatten av lv mv →
    ∃ H' col' Ia' Ib' av' lv' mv',Loops Tryz.prog cnd B 129 (loopAt Tryz.prog 9 1) (pmF q bv bo ps.length c da db dc av lv mv i) H (.exit 2) (pmF q bv bo ps.length c da db dc av' lv' mv' ps.length) H'∧Inv H' col' q bv bo ps da db dc Ia' Ib' Ic ps.flatten ps.flatten ps.flatten av' lv' mv'∧H.next≤H'.next:=by
  intro t
  have fin: ∀ (H:AHeap) (col:Nat→Nat) (Ia Ib:Ids) (av lv mv:AVal),B≤H.next→Inv H col q bv bo ps da db dc Ia Ib Ic (ps.take ps.length).flatten (ps.take ps.length).flatten (ps.take ps.length).flatten av lv mv →
      ∃ H' col' Ia' Ib' av' lv' mv',Loops Tryz.prog cnd B 129 (loopAt Tryz.prog 9 1) (pmF q bv bo ps.length c da db dc av lv mv ps.length) H (.exit 2) (pmF q bv bo ps.length c da db dc av' lv' mv' ps.length) H'∧Inv H' col' q bv bo ps da db dc Ia' Ib' Ic ps.flatten ps.flatten ps.flatten av' lv' mv'∧H.next≤H'.next:=by
    intro H col Ia Ib av lv mv hB g
    rw [List.take_length]at g
    have m:=Mv.fresh H col 4
    obtain⟨e,F1,h1,hr,rfl,rfl,rfl⟩:=pm_vp H H H H H H B q bv bo ps.length c ps.length 0 0 none da db dc av lv mv .undef .undef .undef .undef .undef .undef (fun e F1 h1=>e= .exit 2∧F1=pmF q bv bo ps.length c da db dc av lv mv ps.length∧h1=⟨H.next+4,H.blks⟩) (bif_ble hB ⟨fun h=>by omega,fun _=>⟨rfl,rfl,rfl⟩⟩)
    exact⟨_,_,Ia,Ib,av,lv,mv,Loops.last (by simp) hr,g.mv m (by simp),by show H.next≤H.next+4;omega⟩
  induction t with
  | zero =>
    intro i H col Ia Ib av lv mv ht hi hB g
    obtain rfl:i=ps.length:=by omega
    exact fin H col Ia Ib av lv mv hB g
  | succ t ih =>
    intro i H col Ia Ib av lv mv ht2 hi hB g
    by_cases hc:i<ps.length
    · have hfl:=flat_len hc
      obtain⟨H1,col1,Ia1,Ib1,av1,lv1,mv1,hr,g1,n1⟩:=pm_round (c:=c) hB g hc hn (by omega)
      rw [← flat_take hc]at g1
      obtain⟨H2,col2,Ia2,Ib2,av2,lv2,mv2,hL,g2,n2⟩:=ih (i+1) H1 col1 Ia1 Ib1 av1 lv1 mv1 (by omega) (by omega) (by omega) g1
      exact⟨H2,col2,Ia2,Ib2,av2,lv2,mv2,Loops.step hr hL,g2,by omega⟩
    · obtain rfl:i=ps.length:=by omega
      exact fin H col Ia Ib av lv mv hB g
end Go.Proofs.YtddnafghiejcoaaGreatDoor
