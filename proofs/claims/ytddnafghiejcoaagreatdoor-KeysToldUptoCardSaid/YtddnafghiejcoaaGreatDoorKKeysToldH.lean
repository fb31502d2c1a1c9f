/-
  Parts of the proof of KeysTold.
-/
import Derived.Test.YtddnafghiejcoaaGreatDoorRows
import Derived.ProofKit
import Derived.LaidMore
import Derived.OpenShut
import Derived.Stop.Joined
import Derived.Stop.LaidErr
import Derived.MakeChecks
import Derived.Lib.LaidTab
import Derived.LaidOnce
import Derived.Lib.Space
import Derived.Test.YtddnafghiejcoaaGreatDoorKKeysToldG
set_option linter.unusedVariables false
set_option linter.unusedSimpArgs false
namespace Go.Proofs.YtddnafghiejcoaaGreatDoor
open Go.cH Go.Keys
set_option maxRecDepth 1000000
theorem aen{H:Type}(d:DataW H):1≤Rows.uptoBulk d:=by
 cases d with
 |lit l=>cases l<;>simp [Rows.uptoBulk]
 |nil=>simp [Rows.uptoBulk]
 |ptr d=>simp [Rows.uptoBulk]
 |slice bi spare=>simp [Rows.uptoBulk]
 |agg parts=>simp [Rows.uptoBulk]
 |iface t d=>simp [Rows.uptoBulk]
 |map entries=>simp [Rows.uptoBulk]
 |held h=>simp [Rows.uptoBulk]
theorem Qs{H:Type}(l:List (DataW H)):l.length≤Rows.uptoBulkAll l:=by
 induction l with
 |nil=>simp [Rows.uptoBulkAll]
 |cons x r ih=>have:=aen x;simp only [Rows.uptoBulkAll,List.length_cons];omega
theorem QM{H:Type}{ds:TypeId×Value→H}{P:Program}{w:World}{base:Nat}{spare:Nat→Bool}{held:Bool}{t e:TypeId}(b7:P.underlying t=some (.slice e)){a:Option Addr}{len cap:Nat}{ft:DataW H}{eL:List MemPlace}(h:DataW.Trod ds P w base spare held t (.slice a len cap) ft eL)
 (ao:Rows.uptoSmall H [ft]=true):len≤1048576:=by
 obtain⟨de,a6⟩:=h;have yw:DataW.trod ds P w base spare held de t [.slice a len cap]=some (ft,eL):=a6;have av:=of_decide_eq_true ao;rcases DataW.trod_slice b7 yw with ⟨dV,_⟩|⟨x,l,c,bi,rest,n,_,dV,af,_,aB,hm,hlen,_⟩
 ·simp at dV;obtain⟨_,rfl,_⟩:=dV;simp
 ·simp at dV;obtain⟨_,rfl,_⟩:=dV;simp only [Prod.mk.injEq]at af;obtain⟨rfl,_⟩:=af;have p:=Qs (bi.map (·.1));have ae:=Qs (rest.map (·.1));rw [List.length_map]at p ae;simp only [Rows.uptoBulkAll,Rows.uptoBulk]at av;omega
theorem aeo{n:Int}(h:(Lit.int .u8 n).wf=true):0≤n∧n≤255:=by simp [Lit.wf,IntKind.min,IntKind.max,IntKind.signed,IntKind.bits]at h;omega
def yx(z:Int):UInt8:=UInt8.ofNat z.toNat
theorem aep{z:Int}(h:0≤z∧z≤255):((yx z).toNat:Int)=z:=by
 have:(yx z).toNat=z.toNat%256:=by unfold yx;simp [UInt8.toNat_ofNat']
 rw [this];omega
def vd(w:World)(x:Addr)(len:Nat):Bytes:=(List.range len).map fun i=>yx (B9 (elemAt w x false 1 i))
theorem B'(w:World)(x:Addr)(len:Nat):(vd w x len).length=len:=by simp [vd]
theorem aeq{w:World}{x:Addr}{len c:Nat}{b:J}{U:Option bH}(aq:sv U len c 0 0 0 1)(af:∀i,i<len→b.elem? 0 (0+i)=some (elemAt w x false 1 i))(he:∀i C,i<len→C<1→ ∃k,([.int .u8]:List j0)[C]? =some k∧o9 k (cellAt w x (i*1+C))) :
 s8 (j.of [b]) (fun _=>0) 0 U (vd w x len):=by
 rcases aq with rfl|⟨rfl,rfl,_⟩
 ·refine⟨.inr ⟨0,0,0,rfl,⟨b,rfl,fun i al=> ?_⟩,by show(0:Nat)<1;decide,rfl⟩⟩;rw [B']at al;rw [af i al];obtain⟨k,p,ae⟩:=he i 0 al (by omega);simp at p;subst p;have e:elemAt w x false 1 i=kH (cellAt w x (i*1+0)):=rfl;have q:=ae.int;have av:(vd w x len)[i]'(by rw [B'];exact al)=yx (B9 (elemAt w x false 1 i)):=by simp [vd]
  rw [av,aep (by rw [e];exact aeo q.2),e];exact congrArg some q.1
 ·exact⟨.inl ⟨rfl,rfl⟩⟩
theorem QN{w:World}{x:Addr}{len c:Nat}{b:J}{U:Option bH}(aq:sv U len c 0 0 0 1)(av:dt b)(af:∀i,i<len→b.elem? 0 (0+i)=some (elemAt w x false 1 i))(he:∀i C,i<len→C<1→ ∃k,([.int .u8]:List j0)[C]? =some k∧o9 k (cellAt w x (i*1+C)))(aB:len≤1048576) :
 ∃aa,aI Tryz.prog aw 11 [.slice U len c] (j.of [b]) (.bool true) aa:=by
 have:=ad1 (c:=c) (bs:=vd w x len) (by rw [B'];omega) (aeq aq af he)
 rwa [B']at this
end Go.Proofs.YtddnafghiejcoaaGreatDoor
namespace Go.Proofs.YtddnafghiejcoaaGreatDoor
open Go.ChangeShapes Go.WideShapes Go.RowKit Go.Stop
open Go.cH
set_option maxRecDepth 1000000
theorem aer:(Tryz.prog.globals[5]?).map (·.type)=some 179:=by kernel_rfl
theorem aes:Tryz.prog.cellsOf 179=20:=by kernel_rfl
theorem aet:Tryz.prog.cellsOf 151=1:=by kernel_rfl
theorem aeu{W:World}(h:laidMetH Tryz.prog Rows.keysPiecesRow.laid W):Lib.TabIs Tryz.prog W "internal/strconv.uint64pow10" .u64 Lib.pow10Tab:=by rw [MakeChecks.laidMetH_plain _ _ _ (by kernel_rfl)]at h;exact Lib.tabIs_of_head Es aer Tryz.underlying179 Tryz.underlying151 aet aes (laidMet.tail (laidMet.tail h))
noncomputable def yy(os:Os):World :=
 {World.doorLaid Tryz.prog 96 os with heap:=(World.doorLaid Tryz.prog 96 os).heap.modify 8 fun
  |.cells _ t frozen=> .cells (Go.Pinned.utf8FirstZ.map fun(z:Nat)=>Value.int .u8 (z:Int)).toArray t frozen
  |U=>U}
theorem aev{P:Program}{w:World}{l:List (String×DataW Unit)}(de M:Nat)(h:(DataW.laidRun P w de (l.map (·.1))).bind (fun x=>if nodupBits M x.2 0&&laidRowsB P w x.2 then some x.1 else none)=some l):laidMet P l w:=by
 simp only [Option.bind_eq_some_iff]at h;obtain⟨x,af,d⟩:=h;split at d
 ·rename_i av;simp only [Bool.and_eq_true]at av;simp only [Option.some.injEq]at d;exact laidMet_of_run (ps:=x.2) de (by rw [af,←d]) (decide_eq_true (nodupBits_sound av.1).1) av.2
 ·cases d
theorem Ca(os:Os)(args:Array Value):laidMetH Tryz.prog Rows.keysPiecesRow.laid ((yy os).forCall (fun _ _=>0) ⟨#[],args,[]⟩).memory:=by rw [MakeChecks.laidMetH_plain _ _ _ (by kernel_rfl)];exact aev 8 257 (by kernel_rfl)
theorem aew:(Tryz.prog.globals[0]?).map (·.type)=some 113:=by kernel_rfl
theorem aex:Tryz.prog.cellsOf 113=256:=by kernel_rfl
theorem aey:Tryz.prog.cellsOf 5=1:=by kernel_rfl
theorem Qt:Tryz.prog.globalNamed "strconv.ErrSyntax" =some 3:=by kernel_rfl
theorem Qu:Tryz.prog.globalNamed "strconv.ErrRange" =some 4:=by kernel_rfl
theorem aez:(Tryz.prog.globals[3]?).map (·.type)=some 89:=by kernel_rfl
theorem aeA:(Tryz.prog.globals[4]?).map (·.type)=some 89:=by kernel_rfl
theorem Qv: "*" ++ "errors.errorString" = "*errors.errorString" :=by decide
theorem Qw(u:TypeId)(h:Tryz.prog.typeName? 3 u=some "*errors.errorString"):u=187 :=
 typeName_ptr_named (nm:= "errors.errorString") (by rw [Qv];kernel_rfl) (by kernel_rfl) (by decide) u (by rw [Qv];exact h)
theorem Qx:Tryz.prog.cellsOf 189=1:=by kernel_rfl
theorem strCells:Tryz.prog.cellsOf 9=1:=by kernel_rfl
theorem Qy{P:Program}{W:World}{n:String}{g:Nat}{v:Value}(ah:P.globalNamed n=some g)(h:W.var? P n=some #[v]):W.cell? ⟨g,0,none⟩=some v∧g<W.heap.size:=by
 unfold World.var? at h;rw [ah]at h;simp only [Option.bind_some]at h;split at h
 ·rename_i bn t f bQ;simp only [Option.some.injEq]at h;subst h;refine⟨by simp [World.cell?,bQ],(Array.getElem?_eq_some_iff.1 bQ).1⟩
 ·cases h
theorem Qz{W:World}{n:String}{g:Nat}{k:IntKind}{t:List Int}(ah:Tryz.prog.globalNamed n=some g)(h:Lib.TabIs Tryz.prog W n k t):g<W.heap.size:=by
 unfold Lib.TabIs World.var? at h;rw [ah]at h;simp only [Option.bind_some]at h;rcases Nat.lt_or_ge g W.heap.size with k|k
 ·exact k
 ·rw [Array.getElem?_eq_none k]at h;cases h
theorem tp{W:World}{g:Nat}(h:∃m,W.cell? ⟨g,0,none⟩=some (.int .i64 m)):g<W.heap.size:=by
 obtain⟨m,e⟩:=h;rcases Nat.lt_or_ge g W.heap.size with k|k
 ·exact k
 ·simp [World.cell?,Array.getElem?_eq_none k]at e
theorem QC{W:World}(h:laidMetH Tryz.prog Rows.keysPiecesRow.laid W)(af:∃m,W.cell? ⟨2,0,none⟩=some (.int .i64 m)):aw (fun k=>k<W.heap.size) W:=by have ac:=aeu h;rw [MakeChecks.laidMetH_plain _ _ _ (by kernel_rfl)]at h;have bO:=laidMet.tail (laidMet.tail (laidMet.tail (laidMet.tail h)));obtain⟨a,s,be,_⟩:=laid_sentinel bO Qu aeA Tryz.underlying89 Qw Tryz.underlying187 Tryz.underlying189 rfl rfl Tryz.underlying9 Qx strCells;have bJ:=laidMet.tail bO;obtain⟨a2,s2,aq,_⟩:=laid_sentinel bJ Qt aez Tryz.underlying89 Qw Tryz.underlying187 Tryz.underlying189 rfl rfl Tryz.underlying9 Qx strCells;have cI:=laidMet.tail (laidMet.tail bJ);have b7:Lib.TabIs Tryz.prog W "strings.asciiSpace" .u8 Lib.asciiSpaceTab:=Lib.tabIs_of_head Et aew Tryz.underlying113 Tryz.underlying5 aey aex (zs:=Lib.asciiSpaceTab) cI;obtain⟨fM,jE⟩:=Qy Qu be;obtain⟨s1,s2⟩:=Qy Qt aq;exact⟨Qz Es ac,ac,Qz Et b7,b7,s2,⟨_,_,s1⟩,jE,⟨_,_,fM⟩,tp af,af⟩
end Go.Proofs.YtddnafghiejcoaaGreatDoor
