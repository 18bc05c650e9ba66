/-
  Parts of the proof, merged: what the functions do, and plain laws.
-/
import Derived.Test.YtjifdalflepcoacHRFP4
import Derived.Test.YtjifdalflepcoacHRFP3
import Derived.Test.YtjifdalflepcoacHRFP1
import Derived.Test.YtjifdalflepcoacHRFP0
import Derived.Test.YtjifdalflepcoacHRFP2
import Derived.Deep.LoopGhost
import Derived.Laws.EntriesVeiled
set_option maxHeartbeats 16000000
set_option maxRecDepth 100000
set_option linter.unusedVariables false
set_option linter.unusedSimpArgs false
namespace Go.Proofs.Ytjifdalflepcoac
section
open Go.RowKit
section
variable {w w':World} {h:WH} {O:Wo}
def MajorRet (w:World) (h:WH) (O:Wo) (e:Ending) (w':World):Prop:=e=.returned (.int .i64 (jCut O).1)∧WoodTo w h w' (jCut O).2
theorem majorCut_c {W:Wd} {φ:Int→Int} (R:Rep O W φ) (H:WoodAt w h O) :
  Calls Try.prog 35 #[.pointer (some ⟨h.p,0,none⟩)] w (MajorRet w h O):=by
 have HH:=Hz H
 have hok:=H.ok
 obtain ⟨p0,p1,p2,p3⟩:=H.ptrs
 have pl:=H.hp.lt
 have o4:=hok.ha.h4
 have HR:=Hz R
 clear H R
 have HOK:=Hz hok
 clear hok
 go_enter Try.func35,Try.ntmps35
 go_wp2_with fail
 refine (Words_c w HH.out.ha).mono ?_
 rintro e w1 ⟨ao,ac,rfl,-,hk,-⟩
 have H1:=Hz (HH.out.keep hk (fun _ _ h=>h));have K1:=Hz hk
 clear p0 p1 p2 p3 pl hk
 generalize hn:O.ar.ws.length=n at *
 have HN:=Hz hn
 clear hn
 go_upto_region 2 with fail
 refine wp_cut_over (fun i=>Nat.blt 37 i && Nat.blt i 45 || Nat.beq i 4) (fun s' wx=>CutMade w1 h.p n wx (s' 4)) ?_ ?_
 ·intro K' hK'
  obtain ⟨ib,hi,hz0,hz1,hz2⟩:=info_parts info_bool
  have hmb:=fun wx=>run_make_one (P:=Try.prog) wx 119 4 ib (.bool false) Try.underlying119 hi hz0 rfl hz1 n (by rw [hz2];omega) (by omega)
  obtain ⟨ii,hi',hz0',hz1',hz2'⟩:=info_parts info_int8'
  have hmi:=fun wx=>run_make_one (P:=Try.prog) wx 63 3 ii (.int .i64 0) Try.underlying63 hi' hz0' rfl hz1' n (by rw [hz2'];omega) (by omega)
  clear hi hz0 hz1 hz2 hi' hz0' hz1' hz2'
  have I0:=Hz (CutIn.start w1 h.p n)
  refine wp_region_ro3 (.free 0 (.free 1 (.free 3 (.three 2 (.two 4 (.free 5 (.two 6 (.run 7 (.run 8 .fin)) 7 (.run 6 (.run 8 .fin)))) 7 (.run 4 (.free 5 (.run 6 (.run 8 .fin))))) 4 (.two 2 (.free 5 (.two 6 (.run 7 (.run 8 .fin)) 7 (.run 6 (.run 8 .fin)))) 7 (.run 2 (.free 5 (.run 6 (.run 8 .fin))))) 7 (.two 2 (.run 4 (.free 5 (.run 6 (.run 8 .fin)))) 4 (.run 2 (.free 5 (.run 6 (.run 8 .fin))))))))) (by kernel_rfl) (by kernel_rfl) ?_
  iterate 3 (refine wpRO3_free rfl rfl _ (fun w'=>by go_simp;exact Gives.mk _ _) (fun K hK=>?_);go_simp;refine hK _ ?_;clear hK K)
  refine wpRO3_three rfl rfl rfl rfl rfl rfl (fun K hK=>?_) (fun K hK=>?_) (fun K hK=>?_)
  ·unfold gRun;go_simp
   refine hK _ _ ?_
   clear hK K
   have I1:=Hz (show CutIn w1 h.p n ((w1.alloc (.cells (Array.replicate n (.bool false)) 4)).drew) (some w1.heap.size) none none none from I0.out.live)
   generalize (w1.alloc (.cells (Array.replicate n (.bool false)) 4)).drew=wx1 at *
   generalize w1.heap.size=lb at *
   refine wpRO_two rfl rfl rfl rfl (fun K hK=>?_) (fun K hK=>?_)
   ·unfold gRun;go_simp
    refine hK _ _ (fun h=>h) (fun _ h=>h) ?_
    clear hK K
    have I2:=Hz (show CutIn w1 h.p n (wx1.alloc (.cells (Array.replicate n (.int .i64 0)) 3)) (some lb) (some wx1.heap.size) none none from I1.out.to)
    generalize wx1.alloc (.cells (Array.replicate n (.int .i64 0)) 3)=wx2 at *
    generalize wx1.heap.size=tb at *
    refine wpRO_free rfl rfl _ (fun w'=>by go_simp;exact Gives.mk _ _) (fun K hK=>?_);go_simp;refine hK _ ?_;clear hK K
    refine wpRO_two rfl rfl rfl rfl (fun K hK=>?_) (fun K hK=>?_)
    ·unfold gRun;go_simp
     refine hK _ _ (fun h=>h) (fun _ h=>h) ?_
     clear hK K
     have I3:=Hz (show CutIn w1 h.p n (wx2.alloc (.cells #[.pointer (some ⟨h.p,0,none⟩), .slice (some ⟨lb,0,none⟩) n n, .slice (some ⟨tb,0,none⟩) n n, .slice none 0 0, .slice none 0 0] 121)) (some lb) (some tb) (some wx2.heap.size) none from I2.out.cut)
     generalize wx2.alloc (.cells #[.pointer (some ⟨h.p,0,none⟩), .slice (some ⟨lb,0,none⟩) n n, .slice (some ⟨tb,0,none⟩) n n, .slice none 0 0, .slice none 0 0] 121)=wx3 at *
     generalize wx2.heap.size=pc at *
     refine wpRO_run rfl rfl (fun K hK=>?_);unfold gRun;go_simp
     refine hK _ _ (fun h=>h) ?_
     clear hK K
     have I4:=Hz (show CutIn w1 h.p n (wx3.alloc (.cells #[.pointer none] 118)) (some lb) (some tb) (some pc) (some wx3.heap.size) from I3.out.var)
     generalize wx3.alloc (.cells #[.pointer none] 118)=wx4 at *
     generalize wx3.heap.size=vb at *
     obtain ⟨vbl,-⟩:=I4.out.v vb rfl
     have v0:=vbl.cell 0;have vl:=vbl.lt;have vf:=vbl.free 0
     simp only [List.getElem?_cons_zero] at v0
     clear vbl
     refine wpRO_run rfl rfl (fun K hK=>?_);unfold gRun;go_simp
     refine hK _ _ (fun h=>h) ?_
     clear hK K
     refine wpRO_fin ?_
     have IM:=Hz I4.out.made
     clear v0 vl vf
     go_wp2_with fail
     refine ⟨by kernel_rfl,?_⟩
     exact IM.out
    ·unfold gRun;go_simp
     refine hK _ _ (fun h=>h) (fun _ h=>h) ?_
     clear hK K
     have I3:=Hz (show CutIn w1 h.p n (wx2.alloc (.cells #[.pointer none] 118)) (some lb) (some tb) none (some wx2.heap.size) from I2.out.var)
     generalize wx2.alloc (.cells #[.pointer none] 118)=wx3 at *
     generalize wx2.heap.size=vb at *
     refine wpRO_run rfl rfl (fun K hK=>?_);unfold gRun;go_simp
     refine hK _ _ (fun h=>h) ?_
     clear hK K
     have I4:=Hz (show CutIn w1 h.p n (wx3.alloc (.cells #[.pointer (some ⟨h.p,0,none⟩), .slice (some ⟨lb,0,none⟩) n n, .slice (some ⟨tb,0,none⟩) n n, .slice none 0 0, .slice none 0 0] 121)) (some lb) (some tb) (some wx3.heap.size) (some vb) from I3.out.cut)
     generalize wx3.alloc (.cells #[.pointer (some ⟨h.p,0,none⟩), .slice (some ⟨lb,0,none⟩) n n, .slice (some ⟨tb,0,none⟩) n n, .slice none 0 0, .slice none 0 0] 121)=wx4 at *
     generalize wx3.heap.size=pc at *
     obtain ⟨vbl,-⟩:=I4.out.v vb rfl
     have v0:=vbl.cell 0;have vl:=vbl.lt;have vf:=vbl.free 0
     simp only [List.getElem?_cons_zero] at v0
     clear vbl
     refine wpRO_run rfl rfl (fun K hK=>?_);unfold gRun;go_simp
     refine hK _ _ (fun h=>h) ?_
     clear hK K
     refine wpRO_fin ?_
     have IM:=Hz I4.out.made
     clear v0 vl vf
     go_wp2_with fail
     refine ⟨by kernel_rfl,?_⟩
     exact IM.out
   ·unfold gRun;go_simp
    refine hK _ _ (fun h=>h) (fun _ h=>h) ?_
    clear hK K
    have I2:=Hz (show CutIn w1 h.p n (wx1.alloc (.cells #[.pointer none] 118)) (some lb) none none (some wx1.heap.size) from I1.out.var)
    generalize wx1.alloc (.cells #[.pointer none] 118)=wx2 at *
    generalize wx1.heap.size=vb at *
    refine wpRO_run rfl rfl (fun K hK=>?_);unfold gRun;go_simp
    refine hK _ _ (fun h=>h) ?_
    clear hK K
    have I3:=Hz (show CutIn w1 h.p n (wx2.alloc (.cells (Array.replicate n (.int .i64 0)) 3)) (some lb) (some wx2.heap.size) none (some vb) from I2.out.to)
    generalize wx2.alloc (.cells (Array.replicate n (.int .i64 0)) 3)=wx3 at *
    generalize wx2.heap.size=tb at *
    refine wpRO_free rfl rfl _ (fun w'=>by go_simp;exact Gives.mk _ _) (fun K hK=>?_);go_simp;refine hK _ ?_;clear hK K
    refine wpRO_run rfl rfl (fun K hK=>?_);unfold gRun;go_simp
    refine hK _ _ (fun h=>h) ?_
    clear hK K
    have I4:=Hz (show CutIn w1 h.p n (wx3.alloc (.cells #[.pointer (some ⟨h.p,0,none⟩), .slice (some ⟨lb,0,none⟩) n n, .slice (some ⟨tb,0,none⟩) n n, .slice none 0 0, .slice none 0 0] 121)) (some lb) (some tb) (some wx3.heap.size) (some vb) from I3.out.cut)
    generalize wx3.alloc (.cells #[.pointer (some ⟨h.p,0,none⟩), .slice (some ⟨lb,0,none⟩) n n, .slice (some ⟨tb,0,none⟩) n n, .slice none 0 0, .slice none 0 0] 121)=wx4 at *
    generalize wx3.heap.size=pc at *
    obtain ⟨vbl,-⟩:=I4.out.v vb rfl
    have v0:=vbl.cell 0;have vl:=vbl.lt;have vf:=vbl.free 0
    simp only [List.getElem?_cons_zero] at v0
    clear vbl
    refine wpRO_run rfl rfl (fun K hK=>?_);unfold gRun;go_simp
    refine hK _ _ (fun h=>h) ?_
    clear hK K
    refine wpRO_fin ?_
    have IM:=Hz I4.out.made
    clear v0 vl vf
    go_wp2_with fail
    refine ⟨by kernel_rfl,?_⟩
    exact IM.out
  ·unfold gRun;go_simp
   refine hK _ _ ?_
   clear hK K
   have I1:=Hz (show CutIn w1 h.p n ((w1.alloc (.cells (Array.replicate n (.int .i64 0)) 3)).drew) none (some w1.heap.size) none none from I0.out.to)
   generalize (w1.alloc (.cells (Array.replicate n (.int .i64 0)) 3)).drew=wx1 at *
   generalize w1.heap.size=tb at *
   refine wpRO_two rfl rfl rfl rfl (fun K hK=>?_) (fun K hK=>?_)
   ·unfold gRun;go_simp
    refine hK _ _ (fun h=>h) (fun _ h=>h) ?_
    clear hK K
    have I2:=Hz (show CutIn w1 h.p n (wx1.alloc (.cells (Array.replicate n (.bool false)) 4)) (some wx1.heap.size) (some tb) none none from I1.out.live)
    generalize wx1.alloc (.cells (Array.replicate n (.bool false)) 4)=wx2 at *
    generalize wx1.heap.size=lb at *
    refine wpRO_free rfl rfl _ (fun w'=>by go_simp;exact Gives.mk _ _) (fun K hK=>?_);go_simp;refine hK _ ?_;clear hK K
    refine wpRO_two rfl rfl rfl rfl (fun K hK=>?_) (fun K hK=>?_)
    ·unfold gRun;go_simp
     refine hK _ _ (fun h=>h) (fun _ h=>h) ?_
     clear hK K
     have I3:=Hz (show CutIn w1 h.p n (wx2.alloc (.cells #[.pointer (some ⟨h.p,0,none⟩), .slice (some ⟨lb,0,none⟩) n n, .slice (some ⟨tb,0,none⟩) n n, .slice none 0 0, .slice none 0 0] 121)) (some lb) (some tb) (some wx2.heap.size) none from I2.out.cut)
     generalize wx2.alloc (.cells #[.pointer (some ⟨h.p,0,none⟩), .slice (some ⟨lb,0,none⟩) n n, .slice (some ⟨tb,0,none⟩) n n, .slice none 0 0, .slice none 0 0] 121)=wx3 at *
     generalize wx2.heap.size=pc at *
     refine wpRO_run rfl rfl (fun K hK=>?_);unfold gRun;go_simp
     refine hK _ _ (fun h=>h) ?_
     clear hK K
     have I4:=Hz (show CutIn w1 h.p n (wx3.alloc (.cells #[.pointer none] 118)) (some lb) (some tb) (some pc) (some wx3.heap.size) from I3.out.var)
     generalize wx3.alloc (.cells #[.pointer none] 118)=wx4 at *
     generalize wx3.heap.size=vb at *
     obtain ⟨vbl,-⟩:=I4.out.v vb rfl
     have v0:=vbl.cell 0;have vl:=vbl.lt;have vf:=vbl.free 0
     simp only [List.getElem?_cons_zero] at v0
     clear vbl
     refine wpRO_run rfl rfl (fun K hK=>?_);unfold gRun;go_simp
     refine hK _ _ (fun h=>h) ?_
     clear hK K
     refine wpRO_fin ?_
     have IM:=Hz I4.out.made
     clear v0 vl vf
     go_wp2_with fail
     refine ⟨by kernel_rfl,?_⟩
     exact IM.out
    ·unfold gRun;go_simp
     refine hK _ _ (fun h=>h) (fun _ h=>h) ?_
     clear hK K
     have I3:=Hz (show CutIn w1 h.p n (wx2.alloc (.cells #[.pointer none] 118)) (some lb) (some tb) none (some wx2.heap.size) from I2.out.var)
     generalize wx2.alloc (.cells #[.pointer none] 118)=wx3 at *
     generalize wx2.heap.size=vb at *
     refine wpRO_run rfl rfl (fun K hK=>?_);unfold gRun;go_simp
     refine hK _ _ (fun h=>h) ?_
     clear hK K
     have I4:=Hz (show CutIn w1 h.p n (wx3.alloc (.cells #[.pointer (some ⟨h.p,0,none⟩), .slice (some ⟨lb,0,none⟩) n n, .slice (some ⟨tb,0,none⟩) n n, .slice none 0 0, .slice none 0 0] 121)) (some lb) (some tb) (some wx3.heap.size) (some vb) from I3.out.cut)
     generalize wx3.alloc (.cells #[.pointer (some ⟨h.p,0,none⟩), .slice (some ⟨lb,0,none⟩) n n, .slice (some ⟨tb,0,none⟩) n n, .slice none 0 0, .slice none 0 0] 121)=wx4 at *
     generalize wx3.heap.size=pc at *
     obtain ⟨vbl,-⟩:=I4.out.v vb rfl
     have v0:=vbl.cell 0;have vl:=vbl.lt;have vf:=vbl.free 0
     simp only [List.getElem?_cons_zero] at v0
     clear vbl
     refine wpRO_run rfl rfl (fun K hK=>?_);unfold gRun;go_simp
     refine hK _ _ (fun h=>h) ?_
     clear hK K
     refine wpRO_fin ?_
     have IM:=Hz I4.out.made
     clear v0 vl vf
     go_wp2_with fail
     refine ⟨by kernel_rfl,?_⟩
     exact IM.out
   ·unfold gRun;go_simp
    refine hK _ _ (fun h=>h) (fun _ h=>h) ?_
    clear hK K
    have I2:=Hz (show CutIn w1 h.p n (wx1.alloc (.cells #[.pointer none] 118)) none (some tb) none (some wx1.heap.size) from I1.out.var)
    generalize wx1.alloc (.cells #[.pointer none] 118)=wx2 at *
    generalize wx1.heap.size=vb at *
    refine wpRO_run rfl rfl (fun K hK=>?_);unfold gRun;go_simp
    refine hK _ _ (fun h=>h) ?_
    clear hK K
    have I3:=Hz (show CutIn w1 h.p n (wx2.alloc (.cells (Array.replicate n (.bool false)) 4)) (some wx2.heap.size) (some tb) none (some vb) from I2.out.live)
    generalize wx2.alloc (.cells (Array.replicate n (.bool false)) 4)=wx3 at *
    generalize wx2.heap.size=lb at *
    refine wpRO_free rfl rfl _ (fun w'=>by go_simp;exact Gives.mk _ _) (fun K hK=>?_);go_simp;refine hK _ ?_;clear hK K
    refine wpRO_run rfl rfl (fun K hK=>?_);unfold gRun;go_simp
    refine hK _ _ (fun h=>h) ?_
    clear hK K
    have I4:=Hz (show CutIn w1 h.p n (wx3.alloc (.cells #[.pointer (some ⟨h.p,0,none⟩), .slice (some ⟨lb,0,none⟩) n n, .slice (some ⟨tb,0,none⟩) n n, .slice none 0 0, .slice none 0 0] 121)) (some lb) (some tb) (some wx3.heap.size) (some vb) from I3.out.cut)
    generalize wx3.alloc (.cells #[.pointer (some ⟨h.p,0,none⟩), .slice (some ⟨lb,0,none⟩) n n, .slice (some ⟨tb,0,none⟩) n n, .slice none 0 0, .slice none 0 0] 121)=wx4 at *
    generalize wx3.heap.size=pc at *
    obtain ⟨vbl,-⟩:=I4.out.v vb rfl
    have v0:=vbl.cell 0;have vl:=vbl.lt;have vf:=vbl.free 0
    simp only [List.getElem?_cons_zero] at v0
    clear vbl
    refine wpRO_run rfl rfl (fun K hK=>?_);unfold gRun;go_simp
    refine hK _ _ (fun h=>h) ?_
    clear hK K
    refine wpRO_fin ?_
    have IM:=Hz I4.out.made
    clear v0 vl vf
    go_wp2_with fail
    refine ⟨by kernel_rfl,?_⟩
    exact IM.out
  ·unfold gRun;go_simp
   refine hK _ _ ?_
   clear hK K
   have I1:=Hz (show CutIn w1 h.p n ((w1.alloc (.cells #[.pointer none] 118)).drew) none none none (some w1.heap.size) from I0.out.var)
   generalize (w1.alloc (.cells #[.pointer none] 118)).drew=wx1 at *
   generalize w1.heap.size=vb at *
   refine wpRO_two rfl rfl rfl rfl (fun K hK=>?_) (fun K hK=>?_)
   ·unfold gRun;go_simp
    refine hK _ _ (fun h=>h) (fun _ h=>h) ?_
    clear hK K
    have I2:=Hz (show CutIn w1 h.p n (wx1.alloc (.cells (Array.replicate n (.bool false)) 4)) (some wx1.heap.size) none none (some vb) from I1.out.live)
    generalize wx1.alloc (.cells (Array.replicate n (.bool false)) 4)=wx2 at *
    generalize wx1.heap.size=lb at *
    refine wpRO_run rfl rfl (fun K hK=>?_);unfold gRun;go_simp
    refine hK _ _ (fun h=>h) ?_
    clear hK K
    have I3:=Hz (show CutIn w1 h.p n (wx2.alloc (.cells (Array.replicate n (.int .i64 0)) 3)) (some lb) (some wx2.heap.size) none (some vb) from I2.out.to)
    generalize wx2.alloc (.cells (Array.replicate n (.int .i64 0)) 3)=wx3 at *
    generalize wx2.heap.size=tb at *
    refine wpRO_free rfl rfl _ (fun w'=>by go_simp;exact Gives.mk _ _) (fun K hK=>?_);go_simp;refine hK _ ?_;clear hK K
    refine wpRO_run rfl rfl (fun K hK=>?_);unfold gRun;go_simp
    refine hK _ _ (fun h=>h) ?_
    clear hK K
    have I4:=Hz (show CutIn w1 h.p n (wx3.alloc (.cells #[.pointer (some ⟨h.p,0,none⟩), .slice (some ⟨lb,0,none⟩) n n, .slice (some ⟨tb,0,none⟩) n n, .slice none 0 0, .slice none 0 0] 121)) (some lb) (some tb) (some wx3.heap.size) (some vb) from I3.out.cut)
    generalize wx3.alloc (.cells #[.pointer (some ⟨h.p,0,none⟩), .slice (some ⟨lb,0,none⟩) n n, .slice (some ⟨tb,0,none⟩) n n, .slice none 0 0, .slice none 0 0] 121)=wx4 at *
    generalize wx3.heap.size=pc at *
    obtain ⟨vbl,-⟩:=I4.out.v vb rfl
    have v0:=vbl.cell 0;have vl:=vbl.lt;have vf:=vbl.free 0
    simp only [List.getElem?_cons_zero] at v0
    clear vbl
    refine wpRO_run rfl rfl (fun K hK=>?_);unfold gRun;go_simp
    refine hK _ _ (fun h=>h) ?_
    clear hK K
    refine wpRO_fin ?_
    have IM:=Hz I4.out.made
    clear v0 vl vf
    go_wp2_with fail
    refine ⟨by kernel_rfl,?_⟩
    exact IM.out
   ·unfold gRun;go_simp
    refine hK _ _ (fun h=>h) (fun _ h=>h) ?_
    clear hK K
    have I2:=Hz (show CutIn w1 h.p n (wx1.alloc (.cells (Array.replicate n (.int .i64 0)) 3)) none (some wx1.heap.size) none (some vb) from I1.out.to)
    generalize wx1.alloc (.cells (Array.replicate n (.int .i64 0)) 3)=wx2 at *
    generalize wx1.heap.size=tb at *
    refine wpRO_run rfl rfl (fun K hK=>?_);unfold gRun;go_simp
    refine hK _ _ (fun h=>h) ?_
    clear hK K
    have I3:=Hz (show CutIn w1 h.p n (wx2.alloc (.cells (Array.replicate n (.bool false)) 4)) (some wx2.heap.size) (some tb) none (some vb) from I2.out.live)
    generalize wx2.alloc (.cells (Array.replicate n (.bool false)) 4)=wx3 at *
    generalize wx2.heap.size=lb at *
    refine wpRO_free rfl rfl _ (fun w'=>by go_simp;exact Gives.mk _ _) (fun K hK=>?_);go_simp;refine hK _ ?_;clear hK K
    refine wpRO_run rfl rfl (fun K hK=>?_);unfold gRun;go_simp
    refine hK _ _ (fun h=>h) ?_
    clear hK K
    have I4:=Hz (show CutIn w1 h.p n (wx3.alloc (.cells #[.pointer (some ⟨h.p,0,none⟩), .slice (some ⟨lb,0,none⟩) n n, .slice (some ⟨tb,0,none⟩) n n, .slice none 0 0, .slice none 0 0] 121)) (some lb) (some tb) (some wx3.heap.size) (some vb) from I3.out.cut)
    generalize wx3.alloc (.cells #[.pointer (some ⟨h.p,0,none⟩), .slice (some ⟨lb,0,none⟩) n n, .slice (some ⟨tb,0,none⟩) n n, .slice none 0 0, .slice none 0 0] 121)=wx4 at *
    generalize wx3.heap.size=pc at *
    obtain ⟨vbl,-⟩:=I4.out.v vb rfl
    have v0:=vbl.cell 0;have vl:=vbl.lt;have vf:=vbl.free 0
    simp only [List.getElem?_cons_zero] at v0
    clear vbl
    refine wpRO_run rfl rfl (fun K hK=>?_);unfold gRun;go_simp
    refine hK _ _ (fun h=>h) ?_
    clear hK K
    refine wpRO_fin ?_
    have IM:=Hz I4.out.made
    clear v0 vl vf
    go_wp2_with fail
    refine ⟨by kernel_rfl,?_⟩
    exact IM.out
 intro u1 wx hR
 obtain ⟨lb,tb,pc,b,e4,hk,hlb,htb,hpc,hb,s1,s2,s3,s4⟩:=hR
 have e4:u1 4=.pointer (some ⟨b,0,none⟩):=e4
 simp (maxSteps:=2000000) only [overA,overL,List.toList_toArray,Nat.blt,Nat.beq,Nat.ble,Nat.reduceAdd,Bool.or_false,Bool.false_or,Bool.or_true,Bool.true_or,Bool.and_true,Bool.true_and,Bool.and_false,Bool.false_and,cond_true,cond_false]
 rw [e4]
 clear e4
 rename_i K3 hK3
 have HX:=Hz (H1.out.keep hk (fun _ _ h=>h))
 have hsz1:=K1.out.size
 have M0:=Hz (show JM w h O wx pc lb tb (.slice none 0 0) (.slice none 0 0) O.ar O.rt ⟨List.replicate n false,[],[]⟩ (List.replicate n 0) from
  ⟨⟨HX.out.hp,HX.out.ha,by simpa using hpc,by simpa using hlb,by simpa using htb,Sl.nil _ _ _,Sl.nil _ _ _,fun k hk=>nil_own hk.1,⟨fun h=>nil_own h,fun h=>nil_own h⟩⟩,HX.out.hc,HX.out.hs,HX.out.hr,(K1.out.trans hk).mono (fun _ _ h=>h.elim),fun k hk=>by
   rcases hk with hk | hk | hk | hk | hk | hk | hk | hk
   ·exact .inl (.inl hk)
   ·exact .inl (.inr (.inl hk))
   ·exact .inl (.inr (.inr hk))
   ·exact .inr (by rw [hk];exact Nat.le_trans hsz1 s3)
   ·exact .inr (by rw [hk];exact Nat.le_trans hsz1 s1)
   ·exact .inr (by rw [hk];exact Nat.le_trans hsz1 s2)
   ·exact (nil_own hk).elim
   ·exact (nil_own hk).elim⟩)
 have B0:=Hz (show Blk wx b [.pointer (some ⟨pc,0,none⟩)] 118 from hb)
 have BS:=Hz (Nat.le_trans hsz1 s4)
 have S:=Hz HR.out.shut
 have DR:=Hz HR.out.Dm_rt;have DG:=Hz HR.out.Dm_rg;have DW:=Hz HR.out.Dm_wt
 obtain ⟨T,hT⟩:∃ T:Int→Prop,(fun p=>∃ i,W.live i∧φ i=p)=T:=⟨_,rfl⟩
 rw [hT] at S DR DG DW
 have G0:=Hz (show GsOk O.ar T ⟨List.replicate n false,[],[]⟩ 1300 from ⟨by rw [HN.out];simp,fun i hi=>(by cases hi),fun i hi=>(by cases hi),by dsimp only;rw [fals_new];simp;omega⟩)
 clear hk hlb htb hpc hb s1 s2 s3 s4 hT hsz1 HX H1 K1
 obtain ⟨gr,og,rcap,ero,-,-,-⟩:=M0.out.rootCells HOK.out.h12
 have HRO:=Hz ero
 have p3:=M0.out.cells.2.2.2.1;have pl:=M0.out.cells.2.2.2.2
 rw [ero] at p3
 clear ero
 go_wp2_with fail
 go_loopw [50] (fun u wr=>∃ k:Nat,k≤12∧u=.int .i64 k∧∃ sv ev,JM w h O wr pc lb tb sv ev O.ar O.rt (jMarks ⟨List.replicate n false,[],[]⟩ (O.rt.take k)) (List.replicate n 0)∧Blk wr b [.pointer (some ⟨pc,0,none⟩)] 118) (fun u _=>12-(intOf u).toNat)
 case atStart=>exact ⟨0,Nat.zero_le _,rfl,_,_,M0.out,B0.out⟩
 case round=>
  clear M0 B0 p3 pl
  obtain ⟨k,hk,rfl,sv,ev,hM,hB⟩:=hrel
  have M:=Hz hM;have B:=Hz hB
  clear hM hB
  have GK:=Hz (GsOk.marks S.out (O.rt.take k) G0.out (fun x hx=>DR.out x (List.mem_of_mem_take hx))).1
  by_cases hlt:k<12
  ·obtain ⟨gr',og',rcap',ero,hgl,-,hcl⟩:=M.out.rootCells HOK.out.h12
   rw [HRO.out] at ero
   cases ero
   have d0:=hcl k (by rw [HOK.out.h12];exact hlt)
   have b0:=B.out.cell 0;have bl:=B.out.lt
   simp only [List.getElem?_cons_zero] at b0
   have HMS:=Hz (jMarks_snoc (s:=⟨List.replicate n false,[],[]⟩) (l:=O.rt) (k:=k) (by rw [HOK.out.h12];exact hlt))
   have DX:=Hz (DR.out (O.rt.getD k 0) (by rw [List.getD_eq_getElem?_getD,List.getElem?_eq_getElem (by rw [HOK.out.h12];exact hlt)];exact List.getElem_mem _))
   clear hcl
   generalize O.rt.getD k 0=x at *
   go_wp2_with fail
   refine (jMark_c x M.out.J S.out GK.out DX.out (by omega)).mono ?_
   rintro e w2 ⟨rfl,t⟩
   obtain ⟨sv2,M2'⟩:=M.out.tom HH.out t
   have M2:=Hz M2'
   have B2:=Hz (show Blk w2 b [.pointer (some ⟨pc,0,none⟩)] 118 by
    obtain ⟨_,_,kt,_⟩:=t
    exact kt.blk B.out (M.out.var B.out (.inl rfl)))
   clear t M2' d0 b0 bl hgl
   go_wp2_with fail
   go_roundw
   case rel=>exact ⟨k+1,hlt,by go_num,_,_,by rw [HMS.out];exact M2.out,B2.out⟩
   case measure=>simp [intOf];omega
  ·obtain rfl:k=12:=by omega
   have h12:=HOK.out.h12
   rw [List.take_of_length_le (by omega)] at M GK
   obtain ⟨s1,hs1⟩:∃ s,jMarks ⟨List.replicate n false,[],[]⟩ O.rt=s:=⟨_,rfl⟩
   have HS1:=Hz hs1
   rw [hs1] at M GK
   clear hs1 G0 hlt hk h12
   obtain ⟨w2,rfl⟩:∃ x:World,x=wr:=⟨wr,rfl⟩
   have p2:=M.out.cells.2.2.1;have pl:=M.out.cells.2.2.2.2
   have hq24:=HOK.out.hq
   go_wp2_with fail
   refine (Copy_c h.ps h.rv h.wv O.rg O.wt _ M.out.hs (by omega) (by omega)).mono ?_
   rintro e w3 ⟨sp,rv2,qv2,rfl,hsd,hk3,hso⟩
   have M3:=Hz (M.out.same HH.out hk3);have SD3:=Hz hsd;have SO3:=Hz (show InF w h (SideFp sp rv2 qv2) from fun k hk=>.inr (Nat.le_trans M.out.K.size (hso k hk)))
   have B3:=Hz (hk3.blk B.out (fun h=>h))
   clear hsd hk3 hso p2 pl M B
   go_upto_region 9 with fail
   have V4:=Hz (show JvAt (w3.alloc (.cells #[.pointer (some ⟨sp,0,none⟩)] 41)) w3.heap.size sp from Blk.newAt _ rfl rfl)
   have kA:=(Kz w3).alloc (.cells #[.pointer (some ⟨sp,0,none⟩)] 41)
   have M4:=Hz (M3.out.same HH.out kA)
   have SD4:=Hz (SD3.out.keep kA (fun _ _ h=>h))
   have B4:=Hz (show JcAt _ b ⟨h.p,h.pa,h.g,h.pc,h.ps,h.ro,pc,lb,tb⟩ from kA.blk B3.out (fun h=>h))
   have BV:=Hz (show w.heap.size≤w3.heap.size from M3.out.K.size)
   clear kA SD3 B3 M3
   generalize w3.alloc (.cells #[.pointer (some ⟨sp,0,none⟩)] 41)=w4 at *
   generalize w3.heap.size=vb2 at *
   have C4:=Hz (show JS w4 ⟨h.p,h.pa,h.g,h.pc,h.ps,h.ro,pc,lb,tb⟩ sp sv ev rv2 qv2 O.ar (List.replicate n 0) T 1300 O.rg O.wt s1 from ⟨M4.out.J,SD4.out,GK.out⟩)
   have b0:=B4.out.cell 0;have bl:=B4.out.lt
   have v0:=V4.out.cell 0;have vl:=V4.out.lt
   simp only [List.getElem?_cons_zero] at b0 v0
   clear SD4 GK
   go_wp2_with fail
   refine (jDrain_c C4.out S.out DW.out (by omega) (by omega)).mono ?_
   rintro e w5 ⟨rfl,sv5,ev5,hC5,k5,o5⟩
   have HPRE:=Hz (show jDrain O.ar O.wt 2000 s1=jPre O by unfold jPre;rw [HN.out,HS1.out])
   rw [HPRE.out] at hC5
   have C5:=Hz hC5
   have OWN5:=Hz (M4.out.own.mono (fun k hk=>(o5 k hk).imp id (fun h=>Nat.le_trans M4.out.K.size h)))
   have M5:=Hz (M4.out.keep HH.out k5 (M4.out.own.or SO3.out) hC5.J OWN5.out)
   have B5:=Hz (C4.out.var B4.out k5);have V5:=Hz (C4.out.var2 V4.out k5)
   clear hC5 k5 o5 C4 B4 V4 M4 HPRE HS1 b0 bl v0 vl
   have b0:=B5.out.cell 0;have bl:=B5.out.lt
   have v0:=V5.out.cell 0;have vl:=V5.out.lt
   simp only [List.getElem?_cons_zero] at b0 v0
   go_wp2_with fail
   refine (Settle_c sp (jSettleL ⟨h.p,h.pa,h.g,h.pc,h.ps,h.ro,pc,lb,tb⟩ O.ar (List.replicate n 0) T 1300 S.out (by omega) sp b vb2) (jPre O) (fun k=>JH.Own ⟨h.p,h.pa,h.g,h.pc,h.ps,h.ro,pc,lb,tb⟩ sv5 ev5 k∨k=b∨k=vb2) rv2 qv2 O.rg O.wt w5 ⟨sv5,ev5,C5.out.J,C5.out.ok,B5.out,V5.out,rfl⟩ C5.out.S (fun k hk=>by
    obtain ⟨hk | hk | hk,hs⟩:=hk
    ·exact C5.out.J.side_apart C5.out.S hk hs
    ·subst hk
     obtain ⟨_,U,h',hU⟩:=C5.out.S.fp_type hs
     refine B5.out.ne h' ?_ rfl
     rcases hU with rfl | rfl <;> decide
    ·subst hk
     obtain ⟨_,U,h',hU⟩:=C5.out.S.fp_type hs
     refine V5.out.ne h' ?_ rfl
     rcases hU with rfl | rfl <;> decide) (by omega) (by omega) (fun e he=>DG.out e he) (fun e he=>DW.out e he)).mono ?_
   rintro e w6 ⟨rfl,F6,rv6,qv6,⟨sv6,ev6,hJ6,hG6,hB6,hV6,rfl⟩,hS6,-,hk6,hF6,hsf6⟩
   have HPS:=Hz (show passM (jSettleL ⟨h.p,h.pa,h.g,h.pc,h.ps,h.ro,pc,lb,tb⟩ O.ar (List.replicate n 0) T 1300 S.out (by omega) sp b vb2).alive (jSettleL ⟨h.p,h.pa,h.g,h.pc,h.ps,h.ro,pc,lb,tb⟩ O.ar (List.replicate n 0) T 1300 S.out (by omega) sp b vb2).keep (jPre O) O.rg O.wt=jPass O from rfl)
   rw [HPS.out] at hJ6 hG6 hS6
   replace hS6:SideAt w6 sp rv6 qv6 (newRegs jAlive sameW (jPass O).1 (jPass O).2.2) (newWait jAlive sameW (jPass O).1 (jPass O).2.1):=hS6
   have INF:=Hz (show InF w h (fun k=>(JH.Own ⟨h.p,h.pa,h.g,h.pc,h.ps,h.ro,pc,lb,tb⟩ sv5 ev5 k∨k=b∨k=vb2)∨SideFp sp rv2 qv2 k) from fun k hk=>by
    rcases hk with (hk | hk | hk) | hk
    ·exact OWN5.out k hk
    ·exact .inr (by rw [hk];exact BS.out)
    ·exact .inr (by rw [hk];exact BV.out)
    ·exact SO3.out k hk)
   have M6:=Hz (M5.out.keep HH.out hk6 INF.out hJ6 (fun k hk=>by
    rcases hF6 k (.inl hk) with h1 | h1
    ·exact INF.out k (.inl h1)
    ·exact .inr (Nat.le_trans M5.out.K.size h1)))
   have SO6:=Hz (show InF w h (SideFp sp rv6 qv6) from fun k hk=>by
    rcases hsf6 k hk with h1 | h1
    ·exact SO3.out k h1
    ·exact .inr (Nat.le_trans M5.out.K.size h1))
   have S6:=Hz hS6;have B6:=Hz hB6;have V6:=Hz hV6;have G6:=Hz hG6
   clear hS6 hB6 hV6 hG6 hJ6 hk6 hF6 hsf6 HPS INF C5 M5 B5 V5 OWN5 SO3 b0 bl v0 vl
   obtain ⟨st,hst⟩:∃ t,(jPass O).1=t:=⟨_,rfl⟩
   have HST:=Hz hst
   rw [hst] at M6 G6 S6
   clear hst
   have p0:=M6.out.cells.1;have pl:=M6.out.cells.2.2.2.2
   have o1:=HOK.out.ha.h1;have o2:=HOK.out.ha.h2;have o3:=HOK.out.ha.h3
   rw [HN.out] at o3
   go_wp2_with fail
   refine (Bounds_c w6 M6.out.J.ha).mono ?_
   rintro e w7 ⟨rfl,hk⟩
   have M7:=Hz (M6.out.same HH.out hk);have K7:=Hz hk
   clear hk p0 pl M6
   have p0:=M7.out.cells.1;have pl:=M7.out.cells.2.2.2.2
   go_wp2_with fail
   refine (Used_c w7 M7.out.J.ha).mono ?_
   rintro e w8 ⟨rfl,hk⟩
   have M8:=Hz (M7.out.same HH.out hk);have K8:=Hz (K7.out.trans hk)
   clear hk p0 pl M7 K7
   have p0:=M8.out.cells.1;have pl:=M8.out.cells.2.2.2.2
   go_wp2_with fail
   refine (Free_c w8 M8.out.J.ha).mono ?_
   rintro e w9 ⟨rfl,hk⟩
   have M9:=Hz (M8.out.same HH.out hk);have K9:=Hz (K8.out.trans hk)
   have B9:=Hz (K9.out.blk B6.out (fun h=>h));have V9:=Hz (K9.out.blk V6.out (fun h=>h));have S9:=Hz (S6.out.keep K9.out (fun _ _ h=>h))
   clear hk p0 pl M8 K8 K9 B6 V6 S6
   have b0:=B9.out.cell 0;have bl:=B9.out.lt
   simp only [List.getElem?_cons_zero] at b0
   have HIN:=Hz (show ∀ i ∈ O.ar.things.2 ++ O.ar.things.1,0≤i∧i<st.lv.length from fun i hi=>by
    obtain ⟨j,hj,rfl⟩:=HR.out.onto i ((List.mem_append.1 hi).symm)
    have:=HR.out.live_bd hj
    have h2:=G6.out.len
    omega)
   have LV:=Hz (show st.lv.length=n by rw [G6.out.len,HN.out])
   go_wp2_with fail
   refine (jPlan_c (O.ar.nur:Int) M9.out.J (by omega) (by omega) (by rw [LV.out];simp) (by rw [LV.out];omega) HIN.out).mono ?_
   rintro e w10 ⟨rfl,hJ,hk⟩
   have HPL:=Hz (show jPlan O.ar st.lv O.ar.nur (O.ar.things.2 ++ O.ar.things.1) (List.replicate n 0,0)=jPl O by unfold jPl jAll;rw [HST.out,HN.out])
   rw [HPL.out] at hJ ⊢
   have M10:=Hz (M9.out.keep HH.out hk (fun k hk=>M9.out.own k (by rw [hk];exact .inr (.inr (.inr (.inr (.inr (.inl rfl))))))) hJ M9.out.own)
   have NTB:=Hz (show ∀ (c:List Value) (U:TypeId) (k:Nat),Blk w9 k c U→U≠3→¬ k=tb from fun c U k hb hU=>hb.ne M9.out.J.ht hU)
   have B10:=Hz (hk.blk B9.out (NTB.out _ _ _ B9.out (by decide)));have V10:=Hz (hk.blk V9.out (NTB.out _ _ _ V9.out (by decide)))
   have VB10:=Hz (show vb2<w10.heap.size from (hk.blk V9.out (NTB.out _ _ _ V9.out (by decide))).lt)
   have BB10:=Hz (show b<w10.heap.size from (hk.blk B9.out (NTB.out _ _ _ B9.out (by decide))).lt)
   have S10:=Hz (S9.out.keep hk (fun b hb=>by
    obtain ⟨_,U,h',hU⟩:=S9.out.fp_type hb
    exact NTB.out _ _ _ h' (by rcases hU with rfl | rfl <;> decide)))
   have SL10:=Hz (fun k (hk:SideFp sp rv6 qv6 k)=>S10.out.fp_lt hk)
   have PLB:=jPlan_bound O.ar st.lv O.ar.nur (O.ar.things.2 ++ O.ar.things.1) (List.replicate n 0,0) (by dsimp only;omega)
   rw [HPL.out] at PLB
   have FL:=Hz (show (jPl O).1.length=n by rw [PLB.2.2];simp)
   have hly:O.ar.things.1.length≤1300:=Ar.list_len O.ar 1300 _ _
   have hlo:O.ar.things.2.length≤1300:=Ar.list_len O.ar 1300 _ _
   have ab0:=PLB.1
   have ab1:(jPl O).2≤40000:=by have:=PLB.2.1;rw [List.length_append] at this;dsimp only at this;omega
   clear hJ hk NTB PLB M9 B9 V9 S9 b0 bl HPL hly hlo
   have hcut:jCut O=if (jPl O).2 > ((O.ar.grn:Int)-O.ar.nur)+((O.ar.ws.length:Int)-O.ar.grn) then (3,O) else jCut O:=by unfold jCut;split <;> rfl
   have HCUT:=Hz hcut
   have HHALF:=Hz HR.out.half
   clear hcut
   obtain ⟨f,hf⟩:∃ f,(jPl O).1=f:=⟨_,rfl⟩
   obtain ⟨all,hall⟩:∃ f,(jPl O).2=f:=⟨_,rfl⟩
   have HF:=Hz hf;have HALL:=Hz hall
   rw [hf] at M10 FL
   rw [hall] at ab0 ab1 HCUT ⊢
   clear hf hall
   have wsum:IntKind.i64.wrap (((O.ar.grn-O.ar.nur:Nat):Int)+((O.ar.ws.length-O.ar.grn:Nat):Int))=((O.ar.grn-O.ar.nur:Nat):Int)+((O.ar.ws.length-O.ar.grn:Nat):Int):=IntWalk.i64_in _ (by have:=HN.out;omega)
   by_cases hfull:all > ((O.ar.grn-O.ar.nur:Nat):Int)+((O.ar.ws.length-O.ar.grn:Nat):Int)
   ·have hd:decide (((O.ar.grn-O.ar.nur:Nat):Int)+((O.ar.ws.length-O.ar.grn:Nat):Int)<all)=true:=decide_eq_true hfull
    have hE:jCut O=(3,O):=by rw [HCUT.out,if_pos (by have:=HN.out;omega)]
    have HE:=Hz hE
    clear hE hfull
    go_wp2_with fail
    go_ret
    refine ⟨by rw [HE.out];rfl,?_⟩
    rw [HE.out]
    have M:=M10.out
    exact ⟨h,⟨M.J.hp,M.J.ha,M.hc,M.hs,M.hr,HH.out.ap,HOK.out⟩,rfl,M.K,fun k hk=>.inl hk⟩
   ·have hd:decide (((O.ar.grn-O.ar.nur:Nat):Int)+((O.ar.ws.length-O.ar.grn:Nat):Int)<all)=false:=decide_eq_false (by omega)
    have HNF:=Hz (show ¬ all > ((O.ar.grn:Int)-O.ar.nur)+((O.ar.ws.length:Int)-O.ar.grn) by have:=HN.out;omega)
    have HALF:=Hz (HHALF.out (by
     unfold jCut
     rw [HALL.out,if_neg HNF.out]
     exact fun h=>h rfl))
    clear hfull HHALF HCUT
    have HIN2:=Hz (show ∀ i ∈ jThings O,0≤i∧i<st.lv.length from fun i hi=>HIN.out i (List.mem_filter.1 hi).1)
    have HTH:=Hz (show (O.ar.things.2 ++ O.ar.things.1).filter (fun x=>!(!atB st.lv x))=jThings O by unfold jThings jAll;rw [HST.out];simp)
    have p0:=M10.out.cells.1;have pl:=M10.out.cells.2.2.2.2
    go_wp2_with fail
    refine (Things_c w10 M10.out.J.ha).mono ?_
    rintro e w11 ⟨ao1,ac1,bo1,bc1,rfl,hs1,hs2,hk,-,-⟩
    have KX:=Hz hk;have SY:=Hz hs1;have SD:=Hz hs2
    have hly:O.ar.things.1.length≤1300:=Ar.list_len O.ar 1300 _ _
    have hlo:O.ar.things.2.length≤1300:=Ar.list_len O.ar 1300 _ _
    clear hs1 hs2 hk p0 pl
    generalize O.ar.things.1=Yl at *
    generalize O.ar.things.2=Ol at *
    have b0:=(KX.out.blk B10.out (fun h=>h)).cell 0;have bl:=(KX.out.blk B10.out (fun h=>h)).lt
    simp only [List.getElem?_cons_zero] at b0
    go_wp2_with fail
    have HQ:Hid (Blk (w11.alloc (.cells #[.slice bo1 Ol.length bc1, .slice ao1 Yl.length ac1] 63)) w11.heap.size [.slice bo1 Ol.length bc1, .slice ao1 Yl.length ac1] 63):=Blk.newAt _ rfl rfl
    have KA:=Hz ((Kz w11).alloc (.cells #[.slice bo1 Ol.length bc1, .slice ao1 Yl.length ac1] 63))
    generalize w11.alloc (.cells #[.slice bo1 Ol.length bc1, .slice ao1 Yl.length ac1] 63)=w12 at *
    refine (Concat_c w11.heap.size bo1 ao1 bc1 ac1 Ol Yl w12 HQ.out (by obtain ⟨_,_,e,h,-,-⟩:=(SD.out.keep KA.out (fun _ _ h=>h)).rd;cases e;exact h) (by obtain ⟨_,_,e,h,-,-⟩:=(SY.out.keep KA.out (fun _ _ h=>h)).rd;cases e;exact h) (by omega) (by omega)).mono ?_
    rintro e w13 ⟨co,cc,rfl,hs3,hk3,ho3⟩
    have KY:=Hz ((KX.out.trans KA.out).trans hk3);have S13:=Hz hs3
    have HO3:=Hz (show ∀ k,ownB (.slice co (Ol ++ Yl).length cc) k→w10.heap.size≤k from fun k hk=>by
     have h1:=ho3 k hk;have h2:=(KX.out.trans KA.out).size;exact Nat.le_trans h2 h1)
    have M13:=Hz (M10.out.same HH.out KY.out)
    have B13:=Hz (KY.out.blk B10.out (fun h=>h));have V13:=Hz (KY.out.blk V10.out (fun h=>h));have S13':=Hz (S10.out.keep KY.out (fun _ _ h=>h))
    have LL:=Hz (show (Ol ++ Yl).length≤2600 by rw [List.length_append];omega)
    clear hs3 hk3 ho3 HQ KA SY SD KX hly hlo b0 bl B10 V10 S10
    generalize Ol ++ Yl=Ls at *
    have DEL:=Hz (DelF_c b (fun x=>!atB st.lv x) co cc Ls w13 S13.out (by have:=LL.out;omega) (fun x hx w' hk=>by
     have hin:=HIN.out x hx
     have hnot:∀ k,k<w10.heap.size→¬ ownB (.slice co Ls.length cc) k:=fun k hk ho=>by have:=HO3.out k ho;omega
     exact jCut3_c x b (M13.out.J.keep hk (fun k hk=>hnot k (M10.out.J.own_lt hk))) (hk.blk B13.out (hnot b (by have:=BB10.out;exact this))) hin.1 hin.2 (by rw [LV.out];omega)))
    unfold jDeadV at DEL
    have b0:=B13.out.cell 0;have bl:=B13.out.lt
    simp only [List.getElem?_cons_zero] at b0
    go_wp2_with fail
    refine DEL.out.mono ?_
    rintro e w14 ⟨lo,lc,rfl,hsl,hkl,hol⟩
    rw [HTH.out] at hsl hol ⊢
    have hnot:∀ k,k<w10.heap.size→¬ ownB (.slice co Ls.length cc) k:=fun k hk ho=>by have:=HO3.out k ho;omega
    obtain ⟨RG,hRG⟩:∃ l,newRegs jAlive sameW st (jPass O).2.2=l:=⟨_,rfl⟩
    obtain ⟨WT,hWT⟩:∃ l,newWait jAlive sameW st (jPass O).2.1=l:=⟨_,rfl⟩
    obtain ⟨L,hL⟩:∃ l,jThings O=l:=⟨_,rfl⟩
    have HRG:=Hz hRG;have HWT:=Hz hWT;have HLL:=Hz hL
    have DMR:=Hz (show ∀ e ∈ RG,O.dm e.1∧O.dm e.2 from by have:=HR.out.dm_regs;rw [HST.out,hRG] at this;exact this)
    have DMW:=Hz (show ∀ e ∈ WT,O.dm e.1∧O.dm e.2 from by have:=HR.out.dm_wait;rw [HST.out,hWT] at this;exact this)
    have DMT:=Hz HR.out.dm_rt
    have HE:=Hz (show jCut O=(0,⟨((jSlid O).cut all.toNat).clear,O.cd.map fun _=>false,O.rt.map (jNow f),RG.map (jNowE f),WT.map (jNowE f)⟩) by
     unfold jCut
     rw [HALL.out,if_neg (by have:=HNF.out;omega),HST.out,HF.out,hRG,hWT])
    have OK2:=Hz (show (jCut O).2.ok from by obtain ⟨_,ψ,R'⟩:=HR.out.major;exact R'.ho)
    have HNUR:=Hz (show O.ar.nur=(jCut O).2.ar.nur from by
     obtain ⟨_,ψ,R'⟩:=HR.out.major
     have h1:=R'.nur;have h2:=HR.out.nur;have h3:=(Wd.cut_dims W true).1
     omega)
    have HRW:=Hz (show RG.length+WT.length≤24 by
     have h1:=OK2.out.hq
     rw [HE.out] at h1
     simpa using h1)
    rw [hRG,hWT] at S13'
    rw [hL] at hsl hol HIN2 ⊢
    have Z0:=Hz (show JZ w h O w14 h.ps pc lb tb sv6 ev6 O.ar O.cd O.rt st f b vb2 sp rv6 qv6 RG WT lo lc L from
     ⟨M13.out.J.keep hkl (fun k hk=>hnot k (M10.out.J.own_lt hk)),M13.out.hc.keep hkl (hnot _ M10.out.hc.hp.lt) (hnot _ M10.out.hc.hq.lt),M13.out.hr.keep hkl (fun b hb=>hnot _ (M10.out.hr.own hb).1),M13.out.K.then hkl (fun k hk=>.inr (Nat.le_trans M10.out.K.size (HO3.out k hk))),S13'.out.keep hkl (fun b hb=>hnot _ (SL10.out b hb)),SO6.out,hkl.blk B13.out (hnot _ BB10.out),hkl.blk V13.out (hnot _ VB10.out),hsl,HH.out.ap⟩)
    have CBL:=Hz (show h.cb≠lb from fun e=>by
     have h1:=HH.out.away (k:=h.cb) (.inr (.inl rfl))
     have h2:=M10.out.own lb (.inr (.inr (.inr (.inr (.inl rfl)))))
     rw [←e] at h2
     omega)
    have LLN:=Hz (show L.length≤2600 by rw [←hL,←HTH.out];exact Nat.le_trans (List.length_filter_le _ _) LL.out)
    have HTU:=Hz (show ∀ k,k<L.length→∀ A i,(L.take k).foldl (jTurn st f) O.ar=A→L.getD k 0=i→A.ok∧0≤i∧i<O.ar.ws.length∧(∀ j:Int,0≤j→j<(A.thing i).2.1→A.inUse (i+1+j)=true)∧((A.thing i).1=4→0<(A.thing i).2.1)∧∀ j:Int,0≤j→j<(A.thing i).2.1→O.dm (A.load (i+1+j)) from by
     have:=HALF.out.turn;rw [HST.out,HF.out,hL] at this;exact this)
    have HSL:=Hz (show ∀ k,k<L.length→∀ A i,(L.take k).foldl (jSlide1 f) (jTurned O)=A→L.getD k 0=i→A.ok∧A.ws.length=O.ar.ws.length∧0≤i∧i+1+(A.thing i).2.1≤O.ar.ws.length∧0≤lookT f i∧lookT f i+1+(A.thing i).2.1≤O.ar.ws.length from by
     have:=HALF.out.slide;rw [HF.out,hL] at this;exact this)
    have HTD:=Hz (show jTurned O=L.foldl (jTurn st f) O.ar by unfold jTurned;rw [HST.out,HF.out,hL])
    have HSD:=Hz (show jSlid O=L.foldl (jSlide1 f) (jTurned O) by unfold jSlid;rw [HF.out,hL])
    clear hnot hRG hWT hL hsl hkl hol M13 B13 V13 S13 S13' SL10 BB10 VB10 HO3 KY M10 DEL b0 bl HIN HTH LL
    have hll:=LLN.out
    go_wp2_with fail
    go_loopw [121] (fun u wr=>∃ k:Nat,k≤L.length∧u=.int .i64 k∧JZ w h O wr h.ps pc lb tb sv6 ev6 ((L.take k).foldl (jTurn st f) O.ar) O.cd O.rt st f b vb2 sp rv6 qv6 RG WT lo lc L) (fun u _=>L.length-(intOf u).toNat)
    case atStart=>exact ⟨0,Nat.zero_le _,rfl,Z0.out⟩
    case round=>
     clear Z0
     obtain ⟨k,hk,rfl,hZ⟩:=hrel
     have Z:=Hz hZ
     clear hZ
     by_cases hlt:k<L.length
     ·obtain ⟨_,_,e',rd,-,-⟩:=Z.out.L.rd
      cases e'
      obtain ⟨gl,ol,rfl,d0⟩:=rd.int k hlt
      have hgl:=(Z.out.L.own (k:=gl) rfl).1
      have b0:=Z.out.B.cell 0;have bl:=Z.out.B.lt
      simp only [List.getElem?_cons_zero] at b0
      obtain ⟨u1',u2,u3,u4,u5,u6'⟩:=HTU.out k hlt _ _ rfl rfl
      have FT:=Hz (foldl_take (g:=jTurn st f) O.ar hlt)
      have TC:=Hz (jTurn_c (L.getD k 0) Z.out.J u2 (by have:=HN.out;omega) (by rw [LV.out];omega) (by rw [FL.out];omega) u4 u5 (fun j j0 j1 hm=>by
       have:=u6' j j0 j1 hm
       rw [LV.out,FL.out]
       have:=HN.out
       omega))
      clear u1' u2 u3 u4 u5 u6' rd
      generalize L.getD k 0=i at *
      go_wp2_with fail
      refine TC.out.mono ?_
      rintro e w15 ⟨rfl,t⟩
      have Z2:=Hz (Z.out.arena t)
      clear t b0 bl d0 hgl TC
      go_wp2_with fail
      go_roundw
      case rel=>exact ⟨k+1,hlt,by go_num,by rw [FT.out];exact Z2.out⟩
      case measure=>simp [intOf];omega
     ·obtain rfl:k=L.length:=by omega
      rw [List.take_length,←HTD.out] at Z
      obtain ⟨w15,rfl⟩:∃ x:World,x=wr:=⟨wr,rfl⟩
      obtain ⟨B0',hB0⟩:∃ B,jTurned O=B:=⟨_,rfl⟩
      have HB0:=Hz hB0
      rw [hB0] at Z HSD HSL
      have BOK:=Hz (show B0'.ok by rw [←hB0];exact HALF.out.tok)
      have BLEN:=Hz (show B0'.ws.length=O.ar.ws.length by rw [←hB0];exact HALF.out.tlen)
      clear hB0 hlt hk HTU HTD
      have r12:O.rt.length=12:=HOK.out.h12
      have q3:=Z.out.cells.2.2.2.1;have pl:=Z.out.cells.2.2.2.2.1
      rw [HRO.out] at q3
      go_wp2_with fail
      go_loopw [134] (fun u wr=>∃ k:Nat,k≤12∧u=.int .i64 k∧JZ w h O wr h.ps pc lb tb sv6 ev6 B0' O.cd (mapN (jNow f) O.rt k) st f b vb2 sp rv6 qv6 RG WT lo lc L) (fun u _=>12-(intOf u).toNat)
      case atStart=>exact ⟨0,Nat.zero_le _,rfl,by rw [mapN_zero];exact Z.out⟩
      case round=>
       clear Z q3 pl
       obtain ⟨k,hk,rfl,hZ⟩:=hrel
       have Z:=Hz hZ
       clear hZ
       by_cases hlt:k<12
       ·have hrl:(mapN (jNow f) O.rt k).length=12:=by rw [mapN_len];exact r12
        obtain ⟨gr',og',rcap',ero,hgl,hfz,hcl⟩:=Z.out.rootCells hrl
        rw [HRO.out] at ero
        cases ero
        have d0:=hcl k (by omega)
        rw [mapN_get (jNow f) 0 (by omega)] at d0
        have hf':=hfz (og+k)
        have q3:=Z.out.cells.2.2.2.1;have pl:=Z.out.cells.2.2.2.2.1
        rw [HRO.out] at q3
        have b0:=Z.out.B.cell 0;have bl:=Z.out.B.lt
        simp only [List.getElem?_cons_zero] at b0
        have HST3:=Hz (mapN_step (jNow f) (l:=O.rt) (k:=k) 0 (by omega))
        have DX:=Hz (DMT.out (O.rt.getD k 0) (by rw [List.getD_eq_getElem?_getD,List.getElem?_eq_getElem (by omega)];exact List.getElem_mem _))
        have HRL:=Hz hrl
        clear hcl hfz hrl
        generalize O.rt.getD k 0=x at *
        go_wp2_with fail
        refine wp_region_ro (.free 0 (.free 1 (.free 2 (.free 4 (.free 6 (.pure 3 (.pure 5 (.run 7 (.free 8 (.run 9 (.swi [] (.fin)))))))))))) [9] (fun w'=>w'.cell? ⟨h.p,3,none⟩=some (.slice (some ⟨gr,og,none⟩) 12 rcap)∧w'.cell? ⟨b,0,none⟩=some (.pointer (some ⟨pc,0,none⟩))) (by kernel_rfl) (by kernel_rfl) ⟨q3,b0⟩ ?_
        iterate 7 first | (refine wpRO_free rfl rfl _ (fun w'=>by go_simp;exact Gives.mk _ _) (fun K hK=>?_);go_simp;refine hK _ ?_;clear hK K) | (refine wpRO_skipF rfl rfl (fun K hK=>?_);go_simp;refine hK _ ?_;clear hK K) | (refine wpRO_pure rfl rfl _ (fun w' hG=>by obtain ⟨q3,b0⟩:=hG;exact gives_agg2 rfl (by decide +kernel) rfl (by assumption) (by assumption)) (fun K hK=>?_);go_simp;refine hK _ ?_;clear hK K) | (refine wpRO_pure rfl rfl _ (fun w' hG=>by obtain ⟨q3,b0⟩:=hG;go_simp;exact Gives.mk _ _) (fun K hK=>?_);go_simp;refine hK _ ?_;clear hK K) | (refine wpRO_skip rfl rfl (fun K hK=>?_);go_simp;refine hK _ ?_;clear hK K)
        have ZD:=Hz (Z.out.same (Kz wr).drew)
        refine wpRO_run rfl rfl (fun K hK=>?_);unfold gRun;go_simp
        refine (jNow_c x ZD.out.J (fun hm=>by have:=DX.out hm;have:=HN.out;rw [FL.out];omega) (by rw [FL.out];omega)).mono ?_
        rintro e w16 ⟨rfl,rfl⟩
        refine hK _ _ (fun h=>h) ?_
        clear hK K
        iterate 1 first | (refine wpRO_free rfl rfl _ (fun w'=>by go_simp;exact Gives.mk _ _) (fun K hK=>?_);go_simp;refine hK _ ?_;clear hK K) | (refine wpRO_skipF rfl rfl (fun K hK=>?_);go_simp;refine hK _ ?_;clear hK K)
        refine wpRO_chg rfl rfl rfl (fun K hK=>?_);unfold gRun;go_simp
        refine hK _ _ ?_
        clear hK K q3 pl b0 bl d0 hf' hgl
        refine wpRO_swi (fun _=>True) trivial (wpRO_fin ?_)
        have Z2:=Hz ((Z.out.root (x:=jNow f x) (by rw [HRO.out,HRL.out]) (by rw [HRL.out];exact hlt)).same (Kz (wr.setCell ⟨gr,og+k,none⟩ (.int .i64 (jNow f x)))).drew)
        rw [HST3.out] at Z2
        clear Z ZD
        go_wp2_with fail
        go_roundw
        case rel=>exact ⟨k+1,hlt,by go_num,Z2.out⟩
        case measure=>simp [intOf];omega
       ·obtain rfl:k=12:=by omega
        rw [←r12,mapN_all] at Z
        clear hlt hk
        obtain ⟨ro6,rc6,rfl,-,-,-⟩:=Z.out.S.hr.rd
        obtain ⟨qo6,qc6,rfl,-,-,-⟩:=Z.out.S.hw.rd
        have v0:=Z.out.V.cell 0;have vl:=Z.out.V.lt
        have s0:=Z.out.S.hp.cell 0;have s1':=Z.out.S.hp.cell 1;have sl:=Z.out.S.hp.lt
        simp only [List.getElem?_cons_zero,List.getElem?_cons_succ] at v0 s0 s1'
        have hrw:=HRW.out
        go_wp2_with fail
        refine wp_region_ro (.free 10 (.pure 0 (.free 1 (.free 2 (.pure 3 (.pure 4 (.free 5 (.free 6 (.pure 7 (.run 8 (.swi [] (.free 9 (.fin))))))))))))) [8,9] (fun w'=>w'.cell? ⟨vb2,0,none⟩=some (.pointer (some ⟨sp,0,none⟩))∧w'.cell? ⟨sp,0,none⟩=some (.slice ro6 RG.length rc6)∧w'.cell? ⟨sp,1,none⟩=some (.slice qo6 WT.length qc6)) (by kernel_rfl) (by kernel_rfl) ⟨v0,s0,s1'⟩ ?_
        iterate 9 first | (refine wpRO_free rfl rfl _ (fun w'=>by go_simp;exact Gives.mk _ _) (fun K hK=>?_);go_simp;refine hK _ ?_;clear hK K) | (refine wpRO_skipF rfl rfl (fun K hK=>?_);go_simp;refine hK _ ?_;clear hK K) | (refine wpRO_pure rfl rfl _ (fun w' hG=>by obtain ⟨v0,s0,s1'⟩:=hG;exact gives_agg2 rfl (by decide +kernel) rfl (by assumption) (by assumption)) (fun K hK=>?_);go_simp;refine hK _ ?_;clear hK K) | (refine wpRO_pure rfl rfl _ (fun w' hG=>by obtain ⟨v0,s0,s1'⟩:=hG;go_simp;exact Gives.mk _ _) (fun K hK=>?_);go_simp;refine hK _ ?_;clear hK K) | (refine wpRO_skip rfl rfl (fun K hK=>?_);go_simp;refine hK _ ?_;clear hK K)
        refine wpRO_chg rfl rfl rfl (fun K hK=>?_);unfold gRun;go_simp
        refine hK _ _ ?_
        clear hK K v0 vl s0 s1' sl
        refine wpRO_swi (fun _=>True) trivial ?_
        iterate 1 first | (refine wpRO_free rfl rfl _ (fun w'=>by go_simp;exact Gives.mk _ _) (fun K hK=>?_);go_simp;refine hK _ ?_;clear hK K) | (refine wpRO_skipF rfl rfl (fun K hK=>?_);go_simp;refine hK _ ?_;clear hK K)
        refine wpRO_fin ?_
        have kq:Keeps (fun _=>False) wr (wr.alloc (.cells #[.slice ro6 RG.length rc6, .slice qo6 WT.length qc6] 51)).drew:=((Kz wr).alloc _).drew
        have HQ:=Hz (show Blk (wr.alloc (.cells #[.slice ro6 RG.length rc6, .slice qo6 WT.length qc6] 51)).drew wr.heap.size [.slice ro6 RG.length rc6, .slice qo6 WT.length qc6] 51 from (Blk.newAt _ rfl rfl:Blk (wr.alloc (.cells #[.slice ro6 RG.length rc6, .slice qo6 WT.length qc6] 51)) wr.heap.size _ _).drew)
        have ZQ:=Hz (Z.out.same kq)
        clear kq Z
        generalize (wr.alloc (.cells #[.slice ro6 RG.length rc6, .slice qo6 WT.length qc6] 51)).drew=wq at *
        generalize wr.heap.size=q2 at *
        go_wp2_with fail
        go_loopw [159] (fun u wr=>∃ k:Nat,u=.int .i64 k∧((k=0∧JZ w h O wr h.ps pc lb tb sv6 ev6 B0' O.cd (O.rt.map (jNow f)) st f b vb2 sp (.slice ro6 RG.length rc6) (.slice qo6 WT.length qc6) RG WT lo lc L)∨(k=1∧JZ w h O wr h.ps pc lb tb sv6 ev6 B0' O.cd (O.rt.map (jNow f)) st f b vb2 sp (.slice ro6 RG.length rc6) (.slice qo6 WT.length qc6) (RG.map (jNowE f)) WT lo lc L)∨(k=2∧JZ w h O wr h.ps pc lb tb sv6 ev6 B0' O.cd (O.rt.map (jNow f)) st f b vb2 sp (.slice ro6 RG.length rc6) (.slice qo6 WT.length qc6) (RG.map (jNowE f)) (WT.map (jNowE f)) lo lc L))∧Blk wr q2 [.slice ro6 RG.length rc6, .slice qo6 WT.length qc6] 51) (fun u _=>2-(intOf u).toNat)
        case atStart=>exact ⟨0,rfl, .inl ⟨rfl,ZQ.out⟩,HQ.out⟩
        case round=>
         clear ZQ HQ
         obtain ⟨k,rfl,hcase,hQ⟩:=hrel
         have HQ:=Hz hQ
         have q0:=hQ.cell 0;have q1:=hQ.cell 1;have ql:=hQ.lt
         simp only [List.getElem?_cons_zero,List.getElem?_cons_succ] at q0 q1
         clear hQ
         rcases hcase with ⟨rfl,hZ⟩ | ⟨rfl,hZ⟩ | ⟨rfl,hZ⟩
         ·have Z:=Hz hZ
          clear hZ
          rw [show ((0:Nat):Int)=0 from rfl]
          go_wp2_with fail
          go_loopw [165] (fun u wr=>∃ m:Nat,m≤RG.length∧u=.int .i64 m∧JZ w h O wr h.ps pc lb tb sv6 ev6 B0' O.cd (O.rt.map (jNow f)) st f b vb2 sp (.slice ro6 RG.length rc6) (.slice qo6 WT.length qc6) (mapN (jNowE f) RG m) WT lo lc L∧Blk wr q2 [.slice ro6 RG.length rc6, .slice qo6 WT.length qc6] 51) (fun u _=>RG.length-(intOf u).toNat)
          case atStart=>exact ⟨0,Nat.zero_le _,rfl,by rw [mapN_zero];exact Z.out,HQ.out⟩
          case round=>
           clear Z HQ q0 q1 ql
           obtain ⟨m,hm,rfl,hZ,hQ⟩:=hrel
           have Z:=Hz hZ;have HQ:=Hz hQ
           clear hZ hQ
           by_cases hlt2:m<RG.length
           ·have hs:=Z.out.S.hr
            rw [mapN_len] at hs
            have hown:∀ g o,ro6=some ⟨g,o,none⟩→SideFp sp (.slice ro6 RG.length rc6) (.slice qo6 WT.length qc6) g:=fun g o e=>by subst e;exact .inr (.inl rfl)
            obtain ⟨_,_,e',rd,-,-⟩:=hs.rd
            cases e'
            obtain ⟨ge,oe,ee,hgl,d0,d1⟩:=rd.ent m (by rw [mapN_len];exact hlt2)
            have HOWN:=Hz (hown ge oe ee)
            subst ee
            rw [mapN_get (jNowE f) (0,0) hlt2] at d0 d1
            have DMX:=Hz (DMR.out (RG.getD m (0,0)) (by rw [List.getD_eq_getElem?_getD,List.getElem?_eq_getElem hlt2];exact List.getElem_mem _))
            have STEP:=Hz (mapN_step (jNowE f) (l:=RG) (k:=m) (0,0) hlt2)
            clear hs rd hown
            generalize RG.getD m (0,0)=xe at *
            obtain ⟨x1,x2⟩:=xe
            have d0:wr.cell? ⟨ge,oe+m*2,none⟩=some (.int .i64 x1):=d0
            have d1:wr.cell? ⟨ge,oe+m*2+1,none⟩=some (.int .i64 x2):=d1
            go_upto_region 36 with fail
            have HEB:Hid (Blk (wr.alloc (.cells #[.int .i64 x1, .int .i64 x2] 100)) wr.heap.size [.int .i64 x1, .int .i64 x2] 100):=Blk.newAt _ rfl rfl
            have kA:=(Kz wr).alloc (.cells #[.int .i64 x1, .int .i64 x2] 100)
            have ZA:=Hz (Z.out.same kA);have QA:=Hz (kA.blk HQ.out (fun h=>h))
            clear kA Z HQ d0 d1 hgl
            generalize wr.alloc (.cells #[.int .i64 x1, .int .i64 x2] 100)=wA at *
            generalize wr.heap.size=eb at *
            have b0:=ZA.out.B.cell 0;have bl:=ZA.out.B.lt
            have e0:=HEB.out.cell 0;have e1:=HEB.out.cell 1;have el:=HEB.out.lt
            simp only [List.getElem?_cons_zero,List.getElem?_cons_succ] at b0 e0 e1
            refine wp_region_ro (.free 0 (.free 1 (.free 3 (.free 7 (.pure 2 (.pure 4 (.pure 6 (.pure 8 (.run 5 (.run 9 (.swi [12] (.free 10 (.free 11 (.run 12 (.swi [] (.fin)))))))))))))))) [9,10,11,12] (fun w'=>w'.cell? ⟨b,0,none⟩=some (.pointer (some ⟨pc,0,none⟩))∧w'.cell? ⟨eb,0,none⟩=some (.int .i64 x1)∧w'.cell? ⟨eb,1,none⟩=some (.int .i64 x2)) (by kernel_rfl) (by kernel_rfl) ⟨b0,e0,e1⟩ ?_
            iterate 8 first | (refine wpRO_free rfl rfl _ (fun w'=>by go_simp;exact Gives.mk _ _) (fun K hK=>?_);go_simp;refine hK _ ?_;clear hK K) | (refine wpRO_skipF rfl rfl (fun K hK=>?_);go_simp;refine hK _ ?_;clear hK K) | (refine wpRO_pure rfl rfl _ (fun w' hG=>by obtain ⟨b0,e0,e1⟩:=hG;exact gives_agg2 rfl (by decide +kernel) rfl (by assumption) (by assumption)) (fun K hK=>?_);go_simp;refine hK _ ?_;clear hK K) | (refine wpRO_pure rfl rfl _ (fun w' hG=>by obtain ⟨b0,e0,e1⟩:=hG;go_simp;exact Gives.mk _ _) (fun K hK=>?_);go_simp;refine hK _ ?_;clear hK K) | (refine wpRO_skip rfl rfl (fun K hK=>?_);go_simp;refine hK _ ?_;clear hK K)
            have ZD:=Hz (ZA.out.same (Kz wA).drew);have QD:=Hz ((Kz wA).drew.blk QA.out (fun h=>h))
            refine wpRO_run rfl rfl (fun K hK=>?_);unfold gRun;go_simp
            refine (jNow_c x1 ZD.out.J (fun hm=>by have:=DMX.out.1 hm;have:=HN.out;rw [FL.out];omega) (by rw [FL.out];omega)).mono ?_
            rintro e w16 ⟨rfl,rfl⟩
            refine hK _ _ (fun h=>h) ?_
            clear hK K
            refine wpRO_chg rfl rfl rfl (fun K hK=>?_);unfold gRun;go_simp
            refine (jNow_c x2 ZD.out.J (fun hm=>by have:=DMX.out.2 hm;have:=HN.out;rw [FL.out];omega) (by rw [FL.out];omega)).mono ?_
            rintro e w16 ⟨rfl,rfl⟩
            refine hK _ _ ?_
            clear hK K b0 bl e0 e1 el HEB
            refine wpRO_swi (fun _=>True) trivial ?_
            have hlm:(m:Int)<RG.length:=by omega
            iterate 2 first | (refine wpRO_free rfl rfl _ (fun w'=>by go_simp;exact Gives.mk _ _) (fun K hK=>?_);go_simp;refine hK _ ?_;clear hK K) | (refine wpRO_skipF rfl rfl (fun K hK=>?_);go_simp;refine hK _ ?_;clear hK K)
            refine wpRO_chg rfl rfl rfl (fun K hK=>?_)
            refine gRun_store_val 100 (.tmp 181) (.tmp 180) rfl rfl ge oe RG.length rc6 m (entV (mapN (jNowE f) RG m)) 100 (.int .i64 (jNow f x1)) (.int .i64 (jNow f x2)) rfl rfl (by have hs:=ZD.out.S.hr;rw [mapN_len] at hs;exact hs) hlt2 (by kernel_rfl) rfl rfl ?_
            intro w17 hs3 hk3 hz3
            refine hK _ _ ?_
            clear hK K
            refine wpRO_swi (fun _=>True) trivial (wpRO_fin ?_)
            have ES:=Hz (entV_setV (mapN (jNowE f) RG m) m (jNow f x1,jNow f x2))
            obtain ⟨cge,hbge⟩:∃ c,Blk wA.drew ge c 100:=by
             have hs:=ZD.out.S.hr
             obtain ⟨_,c,hb⟩:=hs.own (k:=ge) rfl
             exact ⟨c,hb⟩
            have hne:∀ {bb:Nat} {c:List Value} {U:TypeId},Blk wA.drew bb c U→U≠100→¬ bb=ge:=fun hb hU=>hb.ne hbge hU
            have hs3':Sl w17 100 2 (.slice (some ⟨ge,oe,none⟩) RG.length rc6) (mapN (jNowE f) RG (m+1)).length (entV (mapN (jNowE f) RG (m+1))):=by
             rw [mapN_len,←STEP.out]
             show Sl w17 _ 2 _ _ (entV ((mapN (jNowE f) RG m).set m (jNow f x1,jNow f x2)))
             rw [ES.out];exact hs3
            have Z17:=Hz (ZD.out.side HOWN.out hbge hk3 ⟨hk3.blk ZD.out.S.hp (hne ZD.out.S.hp (by decide)),hs3',ZD.out.S.hw.keep hk3 (fun bb hb e=>ZD.out.S.ap bb ⟨e ▸ rfl,hb⟩),ZD.out.S.ap⟩)
            have Q17:=Hz (hk3.blk QD.out (hne QD.out (by decide)))
            clear hs3 hk3 hz3 ES hbge hne hs3' ZA QA ZD QD
            go_wp2_with fail
            go_roundw
            case rel=>exact ⟨m+1,hlt2,by go_num,Z17.out,Q17.out⟩
            case measure=>simp [intOf];omega
           ·obtain rfl:m=RG.length:=by omega
            rw [mapN_all] at Z
            go_wp2_with fail
            go_roundw
            case rel=>exact ⟨1,by go_num, .inr (.inl ⟨rfl,Z.out⟩),HQ.out⟩
            case measure=>decide
         ·have Z:=Hz hZ
          clear hZ
          rw [show ((1:Nat):Int)=1 from rfl]
          go_wp2_with fail
          go_loopw [165] (fun u wr=>∃ m:Nat,m≤WT.length∧u=.int .i64 m∧JZ w h O wr h.ps pc lb tb sv6 ev6 B0' O.cd (O.rt.map (jNow f)) st f b vb2 sp (.slice ro6 RG.length rc6) (.slice qo6 WT.length qc6) (RG.map (jNowE f)) (mapN (jNowE f) WT m) lo lc L∧Blk wr q2 [.slice ro6 RG.length rc6, .slice qo6 WT.length qc6] 51) (fun u _=>WT.length-(intOf u).toNat)
          case atStart=>exact ⟨0,Nat.zero_le _,rfl,by rw [mapN_zero];exact Z.out,HQ.out⟩
          case round=>
           clear Z HQ q0 q1 ql
           obtain ⟨m,hm,rfl,hZ,hQ⟩:=hrel
           have Z:=Hz hZ;have HQ:=Hz hQ
           clear hZ hQ
           by_cases hlt2:m<WT.length
           ·have hs:=Z.out.S.hw
            rw [mapN_len] at hs
            have hown:∀ g o,qo6=some ⟨g,o,none⟩→SideFp sp (.slice ro6 RG.length rc6) (.slice qo6 WT.length qc6) g:=fun g o e=>by subst e;exact .inr (.inr rfl)
            obtain ⟨_,_,e',rd,-,-⟩:=hs.rd
            cases e'
            obtain ⟨ge,oe,ee,hgl,d0,d1⟩:=rd.ent m (by rw [mapN_len];exact hlt2)
            have HOWN:=Hz (hown ge oe ee)
            subst ee
            rw [mapN_get (jNowE f) (0,0) hlt2] at d0 d1
            have DMX:=Hz (DMW.out (WT.getD m (0,0)) (by rw [List.getD_eq_getElem?_getD,List.getElem?_eq_getElem hlt2];exact List.getElem_mem _))
            have STEP:=Hz (mapN_step (jNowE f) (l:=WT) (k:=m) (0,0) hlt2)
            clear hs rd hown
            generalize WT.getD m (0,0)=xe at *
            obtain ⟨x1,x2⟩:=xe
            have d0:wr.cell? ⟨ge,oe+m*2,none⟩=some (.int .i64 x1):=d0
            have d1:wr.cell? ⟨ge,oe+m*2+1,none⟩=some (.int .i64 x2):=d1
            go_upto_region 36 with fail
            have HEB:Hid (Blk (wr.alloc (.cells #[.int .i64 x1, .int .i64 x2] 100)) wr.heap.size [.int .i64 x1, .int .i64 x2] 100):=Blk.newAt _ rfl rfl
            have kA:=(Kz wr).alloc (.cells #[.int .i64 x1, .int .i64 x2] 100)
            have ZA:=Hz (Z.out.same kA);have QA:=Hz (kA.blk HQ.out (fun h=>h))
            clear kA Z HQ d0 d1 hgl
            generalize wr.alloc (.cells #[.int .i64 x1, .int .i64 x2] 100)=wA at *
            generalize wr.heap.size=eb at *
            have b0:=ZA.out.B.cell 0;have bl:=ZA.out.B.lt
            have e0:=HEB.out.cell 0;have e1:=HEB.out.cell 1;have el:=HEB.out.lt
            simp only [List.getElem?_cons_zero,List.getElem?_cons_succ] at b0 e0 e1
            refine wp_region_ro (.free 0 (.free 1 (.free 3 (.free 7 (.pure 2 (.pure 4 (.pure 6 (.pure 8 (.run 5 (.run 9 (.swi [12] (.free 10 (.free 11 (.run 12 (.swi [] (.fin)))))))))))))))) [9,10,11,12] (fun w'=>w'.cell? ⟨b,0,none⟩=some (.pointer (some ⟨pc,0,none⟩))∧w'.cell? ⟨eb,0,none⟩=some (.int .i64 x1)∧w'.cell? ⟨eb,1,none⟩=some (.int .i64 x2)) (by kernel_rfl) (by kernel_rfl) ⟨b0,e0,e1⟩ ?_
            iterate 8 first | (refine wpRO_free rfl rfl _ (fun w'=>by go_simp;exact Gives.mk _ _) (fun K hK=>?_);go_simp;refine hK _ ?_;clear hK K) | (refine wpRO_skipF rfl rfl (fun K hK=>?_);go_simp;refine hK _ ?_;clear hK K) | (refine wpRO_pure rfl rfl _ (fun w' hG=>by obtain ⟨b0,e0,e1⟩:=hG;exact gives_agg2 rfl (by decide +kernel) rfl (by assumption) (by assumption)) (fun K hK=>?_);go_simp;refine hK _ ?_;clear hK K) | (refine wpRO_pure rfl rfl _ (fun w' hG=>by obtain ⟨b0,e0,e1⟩:=hG;go_simp;exact Gives.mk _ _) (fun K hK=>?_);go_simp;refine hK _ ?_;clear hK K) | (refine wpRO_skip rfl rfl (fun K hK=>?_);go_simp;refine hK _ ?_;clear hK K)
            have ZD:=Hz (ZA.out.same (Kz wA).drew);have QD:=Hz ((Kz wA).drew.blk QA.out (fun h=>h))
            refine wpRO_run rfl rfl (fun K hK=>?_);unfold gRun;go_simp
            refine (jNow_c x1 ZD.out.J (fun hm=>by have:=DMX.out.1 hm;have:=HN.out;rw [FL.out];omega) (by rw [FL.out];omega)).mono ?_
            rintro e w16 ⟨rfl,rfl⟩
            refine hK _ _ (fun h=>h) ?_
            clear hK K
            refine wpRO_chg rfl rfl rfl (fun K hK=>?_);unfold gRun;go_simp
            refine (jNow_c x2 ZD.out.J (fun hm=>by have:=DMX.out.2 hm;have:=HN.out;rw [FL.out];omega) (by rw [FL.out];omega)).mono ?_
            rintro e w16 ⟨rfl,rfl⟩
            refine hK _ _ ?_
            clear hK K b0 bl e0 e1 el HEB
            refine wpRO_swi (fun _=>True) trivial ?_
            have hlm:(m:Int)<WT.length:=by omega
            iterate 2 first | (refine wpRO_free rfl rfl _ (fun w'=>by go_simp;exact Gives.mk _ _) (fun K hK=>?_);go_simp;refine hK _ ?_;clear hK K) | (refine wpRO_skipF rfl rfl (fun K hK=>?_);go_simp;refine hK _ ?_;clear hK K)
            refine wpRO_chg rfl rfl rfl (fun K hK=>?_)
            refine gRun_store_val 100 (.tmp 181) (.tmp 180) rfl rfl ge oe WT.length qc6 m (entV (mapN (jNowE f) WT m)) 100 (.int .i64 (jNow f x1)) (.int .i64 (jNow f x2)) rfl rfl (by have hs:=ZD.out.S.hw;rw [mapN_len] at hs;exact hs) hlt2 (by kernel_rfl) rfl rfl ?_
            intro w17 hs3 hk3 hz3
            refine hK _ _ ?_
            clear hK K
            refine wpRO_swi (fun _=>True) trivial (wpRO_fin ?_)
            have ES:=Hz (entV_setV (mapN (jNowE f) WT m) m (jNow f x1,jNow f x2))
            obtain ⟨cge,hbge⟩:∃ c,Blk wA.drew ge c 100:=by
             have hs:=ZD.out.S.hw
             obtain ⟨_,c,hb⟩:=hs.own (k:=ge) rfl
             exact ⟨c,hb⟩
            have hne:∀ {bb:Nat} {c:List Value} {U:TypeId},Blk wA.drew bb c U→U≠100→¬ bb=ge:=fun hb hU=>hb.ne hbge hU
            have hs3':Sl w17 100 2 (.slice (some ⟨ge,oe,none⟩) WT.length qc6) (mapN (jNowE f) WT (m+1)).length (entV (mapN (jNowE f) WT (m+1))):=by
             rw [mapN_len,←STEP.out]
             show Sl w17 _ 2 _ _ (entV ((mapN (jNowE f) WT m).set m (jNow f x1,jNow f x2)))
             rw [ES.out];exact hs3
            have Z17:=Hz (ZD.out.side HOWN.out hbge hk3 ⟨hk3.blk ZD.out.S.hp (hne ZD.out.S.hp (by decide)),ZD.out.S.hr.keep hk3 (fun bb hb e=>ZD.out.S.ap bb ⟨hb,e ▸ rfl⟩),hs3',ZD.out.S.ap⟩)
            have Q17:=Hz (hk3.blk QD.out (hne QD.out (by decide)))
            clear hs3 hk3 hz3 ES hbge hne hs3' ZA QA ZD QD
            go_wp2_with fail
            go_roundw
            case rel=>exact ⟨m+1,hlt2,by go_num,Z17.out,Q17.out⟩
            case measure=>simp [intOf];omega
           ·obtain rfl:m=WT.length:=by omega
            rw [mapN_all] at Z
            go_wp2_with fail
            go_roundw
            case rel=>exact ⟨2,by go_num, .inr (.inr ⟨rfl,Z.out⟩),HQ.out⟩
            case measure=>decide
         ·have Z:=Hz hZ
          clear hZ q0 q1 ql HQ
          rw [show ((2:Nat):Int)=2 from rfl]
          obtain ⟨wd,rfl⟩:∃ x:World,x=wr:=⟨wr,rfl⟩
          have v0:=Z.out.V.cell 0;have vl:=Z.out.V.lt
          obtain ⟨-,-,p2,-,pl,pf⟩:=Z.out.cells
          simp only [List.getElem?_cons_zero] at v0
          have Z3:=Hz Z.out.take
          clear Z
          go_upto_region 40 with fail
          clear v0 vl p2 pl pf
          generalize wd.setCell ⟨h.p,2,none⟩ (.pointer (some ⟨sp,0,none⟩))=we at *
          have hll:=LLN.out
          go_wp2_with fail
          go_loopw [190] (fun u wr=>∃ k:Nat,k≤L.length∧u=.int .i64 k∧JZ w h O wr sp pc lb tb sv6 ev6 ((L.take k).foldl (jSlide1 f) B0') O.cd (O.rt.map (jNow f)) st f b vb2 sp (.slice ro6 RG.length rc6) (.slice qo6 WT.length qc6) (RG.map (jNowE f)) (WT.map (jNowE f)) lo lc L) (fun u _=>L.length-(intOf u).toNat)
          case atStart=>exact ⟨0,Nat.zero_le _,rfl,Z3.out⟩
          case round=>
           clear Z3
           obtain ⟨k,hk,rfl,hZ⟩:=hrel
           have Z:=Hz hZ
           clear hZ
           by_cases hlt:k<L.length
           ·obtain ⟨_,_,e',rd,-,-⟩:=Z.out.L.rd
            cases e'
            obtain ⟨gl,ol,rfl,d0⟩:=rd.int k hlt
            have hgl:=(Z.out.L.own (k:=gl) rfl).1
            obtain ⟨aok,alen,i0,i1,y0,y1⟩:=HSL.out k hlt _ _ rfl rfl
            have FT:=Hz (foldl_take (g:=jSlide1 f) B0' hlt)
            have IN2:=HIN2.out (L.getD k 0) (by rw [List.getD_eq_getElem?_getD,List.getElem?_eq_getElem hlt];exact List.getElem_mem _)
            obtain ⟨Ak,hAk⟩:∃ A,(L.take k).foldl (jSlide1 f) B0'=A:=⟨_,rfl⟩
            rw [hAk] at Z aok alen i1 y1 FT
            clear hAk rd
            generalize L.getD k 0=i at *
            obtain ⟨i,rfl⟩:=Int.eq_ofNat_of_zero_le i0
            unfold lookT at y0 y1
            rw [Int.toNat_natCast] at y0 y1
            have FTE:=Hz (show jSlide1 f Ak (i:Int)={ Ak with ws:=lay Ak.ws (f.getD i 0).toNat ((Ak.ws.drop i).take (1+(Ak.thing (i:Int)).2.1).toNat) } by unfold jSlide1;rw [Int.toNat_natCast])
            have t0:=Z.out.J.toCell (i:=i) (by have:=LV.out;have:=FL.out;omega)
            generalize f.getD i 0=y at *
            obtain ⟨y,rfl⟩:=Int.eq_ofNat_of_zero_le y0
            rw [Int.toNat_natCast] at FTE
            have HTG:=Hz (Thing_c i wr Z.out.J.ha)
            have hb:=Ak.thing_fields i
            obtain ⟨⟨kk,nn,cd9⟩,hT9⟩:∃ t,Ak.thing (i:Int)=t:=⟨_,rfl⟩
            rw [hT9] at HTG hb i1 y1 FTE
            dsimp only at HTG hb i1 y1 FTE
            clear hT9
            obtain ⟨m,rfl⟩:=Int.eq_ofNat_of_zero_le hb.1
            have hw9:IntKind.i64.wrap (1+(m:Int))=((1+m:Nat):Int):=by rw [IntWalk.i64_in _ (by omega)];omega
            have hw8:IntKind.i64.wrap (1+(m:Int))=1+(m:Int):=IntWalk.i64_in _ (by omega)
            have hty:((1:Int)+(m:Int)).toNat=1+m:=by omega
            rw [hty] at FTE
            have MV:=Hz (show ∀ wx,ArenaAt wx h.pa h.g Ak→Calls Try.prog 82 #[.pointer (some ⟨h.pa,0,none⟩), .int .i64 y, .int .i64 i, .int .i64 (1+(m:Int))] wx fun e w'=>e=.returned (.tuple #[])∧ArenaTo wx h.pa h.g w' (Ak.move y i (1+m)) from fun wx hx=>by
             have:=Move_c y i (1+m) wx hx (by omega) (by omega) (by omega) (by omega)
             rw [show ((1+m:Nat):Int)=1+(m:Int) by omega] at this
             exact this)
            have MVE:=Hz (show Ak.move y i (1+m)=jSlide1 f Ak (i:Int) from FTE.out.symm)
            have c2:=Z.out.J.cells.2.2.1;have cl:=Z.out.J.hc.lt;have tl:=Z.out.J.ht.lt
            rw [FL.out] at c2
            dsimp only at c2 t0
            have b0:=Z.out.B.cell 0;have bl:=Z.out.B.lt
            simp only [List.getElem?_cons_zero] at b0
            have p0:=Z.out.cells.1;have pl:=Z.out.cells.2.2.2.2.1
            have hin:(i:Int)<n:=by have:=LV.out;omega
            clear IN2 aok hw9 hty i0 i1 y0 y1 alen hb
            go_wp2_with fail
            refine HTG.out.mono ?_
            rintro e w18 ⟨rfl,rfl⟩
            go_wp2_with fail
            refine wp_region_ro (.free 0 (.free 1 (.free 2 (.free 8 (.free 11 (.free 12 (.free 13 (.pure 3 (.pure 4 (.free 5 (.free 6 (.pure 7 (.free 9 (.pure 10 (.run 14 (.swi [] (.fin))))))))))))))))) [14] (fun w'=>w'.cell? ⟨h.p,0,none⟩=some (.pointer (some ⟨h.pa,0,none⟩))∧w'.cell? ⟨b,0,none⟩=some (.pointer (some ⟨pc,0,none⟩))∧w'.cell? ⟨pc,2,none⟩=some (.slice (some ⟨tb,0,none⟩) n n)∧w'.cell? ⟨tb,i,none⟩=some (.int .i64 y)) (by kernel_rfl) (by kernel_rfl) ⟨p0,b0,c2,t0⟩ ?_
            iterate 14 first | (refine wpRO_free rfl rfl _ (fun w'=>by go_simp;exact Gives.mk _ _) (fun K hK=>?_);go_simp;refine hK _ ?_;clear hK K) | (refine wpRO_skipF rfl rfl (fun K hK=>?_);go_simp;refine hK _ ?_;clear hK K) | (refine wpRO_pure rfl rfl _ (fun w' hG=>by obtain ⟨p0,b0,c2,t0⟩:=hG;exact gives_agg2 rfl (by decide +kernel) rfl (by assumption) (by assumption)) (fun K hK=>?_);go_simp;refine hK _ ?_;clear hK K) | (refine wpRO_pure rfl rfl _ (fun w' hG=>by obtain ⟨p0,b0,c2,t0⟩:=hG;go_simp;exact Gives.mk _ _) (fun K hK=>?_);go_simp;refine hK _ ?_;clear hK K) | (refine wpRO_skip rfl rfl (fun K hK=>?_);go_simp;refine hK _ ?_;clear hK K)
            refine wpRO_chg rfl rfl rfl (fun K hK=>?_);unfold gRun;go_simp
            refine (MV.out _ (Z.out.same (Kz wr).drew).J.ha).mono ?_
            rintro e w19 ⟨rfl,t⟩
            rw [MVE.out] at t
            have Z2:=Hz ((Z.out.same (Kz wr).drew).arena t)
            refine hK _ _ ?_
            clear hK K t p0 pl b0 bl c2 cl tl t0 d0 hgl MV MVE HTG FTE Z
            refine wpRO_swi (fun _=>True) trivial (wpRO_fin ?_)
            go_wp2_with fail
            go_roundw
            case rel=>exact ⟨k+1,hlt,by go_num,by rw [FT.out];exact Z2.out⟩
            case measure=>simp [intOf];omega
           ·obtain rfl:k=L.length:=by omega
            rw [List.take_length,←HSD.out] at Z
            obtain ⟨na,hna⟩:=Int.eq_ofNat_of_zero_le ab0
            have E2:=Hz (show (jCut O).2=⟨((jSlid O).cut na).clear,List.replicate O.cd.length false,O.rt.map (jNow f),RG.map (jNowE f),WT.map (jNowE f)⟩ by
             rw [HE.out,hna]
             show Wo.mk _ _ _ _ _=_
             rw [Int.toNat_natCast,List.map_const'])
            have E1:=Hz (show (jCut O).1=0 by rw [HE.out])
            have hok2:=OK2.out
            have hnur:=HNUR.out
            rw [E2.out] at hok2 hnur
            have HCN:=Hz (show (jSlid O).nur+na≤(jSlid O).ws.length from hok2.ha.h3)
            have HOK2:=Hz hok2;have HNR:=Hz hnur
            clear hok2 hnur hlt hk HE OK2 HNUR HSD HSL
            rw [hna]
            clear hna ab0 ab1
            have p0:=Z.out.cells.1;have pl:=Z.out.cells.2.2.2.2.1
            go_wp2_with fail
            refine (ACut_c na _ Z.out.J.ha HCN.out).mono ?_
            rintro e w20 ⟨rfl,t⟩
            have Z4:=Hz (Z.out.arena t)
            clear t p0 pl Z
            have p0:=Z4.out.cells.1;have pl:=Z4.out.cells.2.2.2.2.1
            go_wp2_with fail
            refine (AClear_c _ Z4.out.J.ha).mono ?_
            rintro e w21 ⟨rfl,t⟩
            have Z5:=Hz (Z4.out.arena t)
            clear t p0 pl Z4
            have p1:=Z5.out.cells.2.1;have pl:=Z5.out.cells.2.2.2.2.1
            go_wp2_with fail
            refine (Clear_c h.pc h.cb O.ar.nur O.cd w21 Z5.out.hc).mono ?_
            rintro e w22 ⟨rfl,hc,hk⟩
            have Z6:=Hz (Z5.out.cards CBL.out hc hk)
            clear hc hk p1 pl Z5
            go_wp2_with fail
            go_ret
            refine ⟨by rw [E1.out];rfl,?_⟩
            rw [E2.out]
            exact Z6.out.done HNR.out HOK2.out
end
end
section
open Go.RowKit
theorem popW_find:∀ (l:List (Int × Int)) (g:Int),popW l g=if findG g l<l.length then some ((l.getD (findG g l) (0,0)).2,l.eraseIdx (findG g l)) else none
 | [],g=>rfl
 | e :: l,g=>by
  unfold popW findG
  by_cases h:e.1=g
  ·simp [h]
  ·rw [if_neg h,if_neg h,popW_find l g]
   by_cases h2:findG g l<l.length
   ·rw [if_pos h2,if_pos (by simp;omega)];simp
   ·rw [if_neg h2,if_neg (by simp;omega)];rfl
section
variable {w w':World} {h:HH} {O O':Wo} {W:Wd} {φ:Int→Int}
theorem HRoom_c (n:Int) (R:Rep O W φ) (B:HeapAt w h O) :
  Calls Try.prog 42 #[.pointer (some ⟨h.p,0,none⟩), .int .i64 n] w (HRoomRet w h O n):=by
 by_cases hn:n≤(O.ar.nur:Int)-O.ar.yng
 ·exact HRoom_yes n B hn
 have HB:=Hz B;have HR:=Hz R
 have HE:=Hz (show O.room n=if (O.ar.yng:Int)≤(O.ar.ws.length:Int)-O.ar.grn then mCut O else jCut O by unfold Wo.room;rw [if_neg hn])
 have o1:=B.H.ok.ha.h1;have o2:=B.H.ok.ha.h2;have o3:=B.H.ok.ha.h3
 have hn2:((O.ar.nur-O.ar.yng:Nat):Int)<n:=by omega
 have HFO:=Hz (show ((O.ar.ws.length-O.ar.grn:Nat):Int)=(O.ar.ws.length:Int)-O.ar.grn by omega)
 obtain ⟨b0,bl⟩:=B.pc
 have q0:=B.H.ptrs.1;have ql:=B.H.hp.lt
 clear B R hn o1 o2 o3
 go_enter Try.func42,Try.ntmps42
 go_wp2_with fail
 refine (Free_c _ HB.out.H.ha).mono ?_
 rintro e w1 ⟨rfl,hk⟩
 have B1:=Hz (HB.out.same hk);have K1:=Hz hk
 clear hk b0 bl q0 ql
 obtain ⟨b0,bl⟩:=B1.out.pc
 have q0:=B1.out.H.ptrs.1;have ql:=B1.out.H.hp.lt
 generalize ((O.ar.nur-O.ar.yng:Nat):Int)=fr at *
 generalize ((O.ar.ws.length-O.ar.grn:Nat):Int)=fo at *
 go_wp2_with fail
 refine (Used_c _ B1.out.H.ha).mono ?_
 rintro e w2 ⟨rfl,hk⟩
 have B2:=Hz (B1.out.same hk);have K2:=Hz (K1.out.trans hk)
 clear hk b0 bl q0 ql B1 K1
 obtain ⟨b0,bl⟩:=B2.out.pc
 rw [←HFO.out] at HE
 unfold HRoomRet
 obtain ⟨yg,hyg⟩:∃ y:Int,(O.ar.yng:Int)=y:=⟨_,rfl⟩
 rw [hyg] at HE
 rw [hyg]
 clear hyg
 by_cases hy:yg≤fo
 ·have HE2:=Hz (show O.room n=mCut O by rw [HE.out,if_pos hy])
  go_wp2_with fail
  refine (minorCut_c HR.out B2.out.H).mono ?_
  rintro e w5 ⟨rfl,ht⟩
  have TO:=Hz (HeapTo.from_same K2.out (HeapTo.wood B2.out ht))
  clear ht b0 bl
  go_wp2_with fail
  go_ret
  unfold HRoomRet
  rw [HE2.out]
  exact ⟨rfl,TO.out⟩
 ·have HE2:=Hz (show O.room n=jCut O by rw [HE.out,if_neg hy])
  have hy:fo<yg:=by omega
  go_wp2_with fail
  refine (majorCut_c HR.out B2.out.H).mono ?_
  rintro e w5 ⟨rfl,ht⟩
  have TO:=Hz (HeapTo.from_same K2.out (HeapTo.wood B2.out ht))
  clear ht b0 bl
  go_wp2_with fail
  go_ret
  unfold HRoomRet
  rw [HE2.out]
  exact ⟨rfl,TO.out⟩
theorem Rep.room_free (R:Rep O W φ) {n:Int} (hn:n≤13) (h0:(O.room n).1=0):n≤((O.room n).2.ar.nur:Int)-(O.room n).2.ar.yng:=by
 obtain ⟨e,ψ,R'⟩:=R.room n
 rw [R'.young_eq]
 rw [e] at h0
 exact (R.hw.room n hn).2 h0
theorem RoomOk.rep (R:Rep O W φ) {n:Int} (hn:n≤13):RoomOk h O n:=⟨fun w' B=>HRoom_c n R B,fun h0=>R.room_free hn h0⟩
theorem HNumber_c (n:Int) (w:World) (hn:-big≤n∧n<big):Calls Try.prog 55 #[.int .i64 n] w fun e w'=>e=.returned (.int .i64 (4*n))∧Keeps (fun _=>False) w w':=by
 have HEN:=Hz (h_encW n hn)
 have hn64:R64 n:=by unfold R64;have:=hn.1;have:=hn.2;unfold big at *;omega
 have HN:=Hz hn64
 clear hn hn64
 go_enter Try.func55,Try.ntmps55
 go_wp2_with fail
 refine (Encode_c 1 n _ HN.out.1 HN.out.2).mono ?_
 rintro e w2 ⟨rfl,hk⟩
 rw [HEN.out]
 have HK:=Hz hk
 clear hk
 go_wp2_with fail
 go_ret
 exact ⟨rfl,HK.out⟩
def guardC (O:Wo) (x:Int):Int × Int:=if O.isG x=true then (x,0) else (0,2)
theorem HGuard_c (k:Nat) (B:HeapAt w h O) (hk:k<12) :
  Calls Try.prog 47 #[.pointer (some ⟨h.p,0,none⟩), .int .i64 k] w fun e w'=>e=.returned (.tuple #[.int .i64 (guardC O (O.rtA k)).1, .int .i64 (guardC O (O.rtA k)).2])∧Keeps (fun _=>False) w w':=by
 have HB:=Hz B
 obtain ⟨b0,bl⟩:=B.pc
 obtain ⟨g,o,cap,hro,hown,q0,q3,ql,gl,fz,rc⟩:=B.roots
 have ra:=rc k hk
 have hki:(k:Int)<12:=by omega
 have hkd:=fun w' (R:WoodAt w' h.a O)=>Kind_c (O.rtA k) R
 have HG:=Hz (show ∀ x,guardC O x=if decide ((O.ar.thingAt x).2.2.2=0) && decide ((O.ar.thingAt x).2.1=5) then (x,0) else (0,2) from fun x=>rfl)
 clear hro hown fz rc B
 have ra:w.cell? ⟨g,o+k,none⟩=some (.int .i64 (O.rtA k)):=ra
 generalize O.rtA (k:Int)=va at *
 have HG:=Hz (HG.out va)
 obtain ⟨⟨p1,kd,n1,e1⟩,hT1⟩:∃ t,O.ar.thingAt va=t:=⟨_,rfl⟩
 rw [hT1] at HG
 simp only [hT1] at hkd
 have HK:=Hz hkd
 clear hkd hT1
 go_enter Try.func47,Try.ntmps47
 go_wp2_with fail
 refine wp_region_ro (.free 0 (.free 1 (.free 2 (.free 4 (.free 5 (.free 6 (.free 11 (.pure 3 (.pure 7 (.free 8 (.free 9 (.pure 10 (.free 12 (.pure 13 (.run 14 (.swi [] (.free 15 (.free 16 (.free 17 (.free 18 (.free 19 (.free 20 (.free 21 (.fin)))))))))))))))))))))))) [14,15,16,17,18,19,20,21] (fun w'=>w'.cell? ⟨h.p,0,none⟩=some (.pointer (some ⟨h.a.p,0,none⟩))∧w'.cell? ⟨h.a.p,3,none⟩=some (.slice (some ⟨g,o,none⟩) 12 cap)∧w'.cell? ⟨g,o+k,none⟩=some (.int .i64 va)) (by kernel_rfl) (by kernel_rfl) ⟨b0,q3,ra⟩ ?_
 iterate 14 first | (refine wpRO_free rfl rfl _ (fun w'=>by go_simp;exact Gives.mk _ _) (fun K hK=>?_);go_simp;refine hK _ ?_;clear hK K) | (refine wpRO_skipF rfl rfl (fun K hK=>?_);go_simp;refine hK _ ?_;clear hK K) | (refine wpRO_pure rfl rfl _ (fun w' hG=>by obtain ⟨b0,q3,ra⟩:=hG;exact gives_agg2 rfl (by decide +kernel) rfl (by assumption) (by assumption)) (fun K hK=>?_);go_simp;refine hK _ ?_;clear hK K) | (refine wpRO_pure rfl rfl _ (fun w' hG=>by obtain ⟨b0,q3,ra⟩:=hG;go_simp;exact Gives.mk _ _) (fun K hK=>?_);go_simp;refine hK _ ?_;clear hK K) | (refine wpRO_skip rfl rfl (fun K hK=>?_);go_simp;refine hK _ ?_;clear hK K)
 refine wpRO_chg rfl rfl rfl (fun K hK=>?_);unfold gRun;go_simp
 refine (HK.out _ (HB.out.same ((Kz w).drew)).H).mono ?_
 rintro e3 w3 ⟨rfl,rfl⟩
 refine hK _ _ ?_
 clear hK K
 refine wpRO_swi (fun _=>True) trivial ?_
 iterate 7 first | (refine wpRO_free rfl rfl _ (fun w'=>by go_simp;exact Gives.mk _ _) (fun K hK=>?_);go_simp;refine hK _ ?_;clear hK K) | (refine wpRO_skipF rfl rfl (fun K hK=>?_);go_simp;refine hK _ ?_;clear hK K)
 refine wpRO_fin ?_
 by_cases he1:e1=0
 ·subst he1
  by_cases hk5:kd=5
  ·subst hk5
   have HE:=Hz (show guardC O va=(va,0) by rw [HG.out];rfl)
   go_wp2_with fail
   go_ret2
   rw [HE.out]
   exact ⟨rfl,(Keeps.refl _ _).drew⟩
  ·have hd:(kd != 5)=true:=by simpa using hk5
   have HE:=Hz (show guardC O va=(0,2) by rw [HG.out];simp [hk5])
   clear hk5
   go_wp2_with fail
   go_ret2
   rw [HE.out]
   exact ⟨rfl,(Keeps.refl _ _).drew⟩
 ·have hd:(e1 != 0)=true:=by simpa using he1
  have HE:=Hz (show guardC O va=(0,2) by rw [HG.out];simp [he1])
  clear he1
  go_wp2_with fail
  go_ret2
  rw [HE.out]
  exact ⟨rfl,(Keeps.refl _ _).drew⟩
end
end
section
open Go.RowKit
section
variable {w w':World} {O O':Wo} {W W':Wd}
theorem WoodAt.sideTo {h:WH} {rg wt:List (Int × Int)} (H:WoodAt w h O) (t:SideTo w h.ps h.rv h.wv w' rg wt) (hok:Wo.ok { O with rg:=rg,wt:=wt }):WoodTo w h w' { O with rg:=rg,wt:=wt }:=by
 obtain ⟨rv',wv',hs,k,o⟩:=t
 have n1:∀ {b:Nat} {c:List Value} {T:TypeId},Blk w b c T→T≠53→T≠100→¬ SideFp h.ps h.rv h.wv b:=fun hb h1 h2=>H.side_ne hb h1 h2
 refine ⟨⟨h.p,h.pa,h.g,h.pc,h.cb,h.ps,rv',wv',h.ro⟩,⟨k.blk H.hp (n1 H.hp (by decide) (by decide)),H.ha.keep k (n1 H.ha.hp (by decide) (by decide)) (n1 H.ha.hg (by decide) (by decide)),H.hc.keep k (n1 H.hc.hp (by decide) (by decide)) (n1 H.hc.hq (by decide) (by decide)),hs,H.hr.keep k (fun b hb=>?_),H.ap,hok⟩,rfl,k.mono (fun b _ hb=>.inr (.inr (.inr (.inl hb)))),fun b hb=>?_⟩
 ·obtain ⟨_,c,hc⟩:=H.hr.own hb
  exact n1 hc (by decide) (by decide)
 ·rcases hb with hb | hb | hb | hb | hb
  ·exact .inl (.inl hb)
  ·exact .inl (.inr (.inl hb))
  ·exact .inl (.inr (.inr (.inl hb)))
  ·exact (o b hb).imp (fun h=>.inr (.inr (.inr (.inl h)))) id
  ·exact .inl (.inr (.inr (.inr (.inr hb))))
end
end
section
open Go.RowKit
section
variable {w w':World} {O O':Wo} {W W':Wd}
theorem Wo.ok.regs {O:Wo} (h:O.ok) {x y:Int} (hx:R64 x) (hy:R64 y) (hq:¬ 24≤O.rg.length+O.wt.length):Wo.ok { O with rg:=O.rg ++ [(x,y)],wt:=O.wt }:=by
 refine ⟨h.ha,h.h12,h.hR,fun e he=>?_,h.hw,by simp;omega,h.hc⟩
 rcases List.mem_append.1 he with h1 | h1
 ·exact h.hg e h1
 ·simp at h1;subst h1;exact ⟨hx,hy⟩
end
end
section
open Go.RowKit
section
variable {w w':World} {h:HH} {O O':Wo} {W:Wd} {φ:Int→Int}
def HIntRet (w:World) (h:HH) (r:Int × Wo) (e:Ending) (w':World):Prop:=e=.returned (.int .i64 r.1)∧HeapTo w h w' r.2
theorem HVector_c (r a n:Nat) (b i:Int) (B:HeapAt w h O) (hr:r<12) (ha:a<12) (hn:n≤12) (hroom:RoomOk h O (1+(n:Int))) :
  Calls Try.prog 27 #[.pointer (some ⟨h.p,0,none⟩), .agg #[.int .i64 5, .int .i64 r, .int .i64 a, .int .i64 b, .int .i64 i, .int .i64 n]] w (HIntRet w h (O.newT r 2 (List.replicate n (a:Int)))):=by
 obtain ⟨i0,hi,hz0,hz1,hz2⟩:=info_parts info_int
 have Hi:=Hz hi;have Hz0:=Hz hz0;have Hz1:=Hz hz1;have Hz2:=Hz hz2;clear hi hz0 hz1 hz2
 have HRM:=Hz hroom
 clear hroom
 have HB0:=Hz B
 have hb1:Blk (w.alloc (.cells #[.int .i64 5, .int .i64 r, .int .i64 a, .int .i64 b, .int .i64 i, .int .i64 n] 23)) w.heap.size [.int .i64 5, .int .i64 r, .int .i64 a, .int .i64 b, .int .i64 i, .int .i64 n] 23:=Blk.newAt _ rfl rfl
 have ka:=(Kz w).alloc (.cells #[.int .i64 5, .int .i64 r, .int .i64 a, .int .i64 b, .int .i64 i, .int .i64 n] 23)
 have HB1:=Hz (B.same ka);have K1:=Hz ka;have SB1:=Hz hb1
 have SOW:=Hz (show ¬ h.Own w.heap.size from fun e=>by have:=B.own_lt e;omega)
 clear hb1 ka B
 go_enter Try.func27,Try.ntmps27
 go_wp2_with fail
 generalize w.alloc (.cells #[.int .i64 5, .int .i64 r, .int .i64 a, .int .i64 b, .int .i64 i, .int .i64 n] 23)=w1 at *
 generalize w.heap.size=sb at *
 have s0:=SB1.out.cell 0;have s1:=SB1.out.cell 1;have s2:=SB1.out.cell 2;have s3:=SB1.out.cell 3;have s4:=SB1.out.cell 4;have s5:=SB1.out.cell 5;have sl:=SB1.out.lt
 simp only [List.getElem?_cons_zero,List.getElem?_cons_succ] at s0 s1 s2 s3 s4 s5
 go_loopw [5,8] (fun v q wr=>∃ (ao:Option Addr) (cap k:Nat),v=.slice ao k cap∧k≤n∧q=.int .i64 k∧Sl wr 3 1 (.slice ao k cap) k (List.replicate k (Value.int .i64 (a:Int)))∧Keeps (fun _=>False) w1 wr∧∀ b,ownB (.slice ao k cap) b→w1.heap.size≤b) (fun _ q _=>n-(intOf q).toNat)
 case atStart=>exact ⟨none,0,0,rfl,Nat.zero_le _,rfl,Sl.nil _ _ _,Keeps.refl _ _,fun k hk=>(nil_own hk).elim⟩
 case round=>
  obtain ⟨ao,cap,k,rfl,hk,rfl,hs,hK,ho⟩:=hrel
  have SR:=Hz hs;have KR:=Hz hK;have HO:=Hz ho
  have SBR:=Hz (hK.blk SB1.out (fun h=>h))
  clear hs hK ho s0 s1 s2 s3 s4 s5 sl
  have s1:=SBR.out.cell 1;have s2:=SBR.out.cell 2;have sl:=SBR.out.lt
  simp only [List.getElem?_cons_zero,List.getElem?_cons_succ] at s1 s2
  by_cases hlt:k<n
  ·have hki:(k:Int)<n:=by omega
   go_wp2_with (at_builtin;refine wpList_app rfl (.tmp 10) (.tmp 13) 63 rfl 3 i0 (.int .i64 0) 1 8 Try.underlying63 Hi.out Hz0.out Hz1.out Hz2.out rfl (by decide) _ k _ rfl (SR.out.keep ((Kz wr).alloc _) (fun _ _ h=>h)) ⟨wr.heap.size,0,none⟩ 1 1 [.int .i64 a] rfl rfl (news_at wr 3 #[.int .i64 a]) (by intro u hu;simp at hu;subst hu;rfl) (by unfold maxLen;omega) (by omega) ?_)
   intro v5 w5 hs5 hk5 ho5
   have K5:=Hz ((KR.out.alloc (.cells #[.int .i64 a] 3)).then hk5 (fun b hb=>.inr (HO.out b hb)))
   have O5:=Hz (show ∀ b,ownB v5 b→w1.heap.size≤b from fun b hb=>by
    rcases ho5 b hb with h1 | h1
    ·exact HO.out b h1
    ·have:=KR.out.size;omega)
   have S5:=Hz (show Sl w5 3 1 v5 (k+1) (List.replicate (k+1) (Value.int .i64 (a:Int))) by
    have e:List.replicate (k+1) (Value.int .i64 (a:Int))=List.replicate k (Value.int .i64 (a:Int)) ++ [Value.int .i64 (a:Int)]:=List.replicate_succ'
    rw [e];exact hs5)
   obtain ⟨ao5,cap5,e5,-,-,-⟩:=S5.out.rd
   subst e5
   clear hs5 hk5 ho5 s1 s2 sl
   go_wp2_with fail
   go_roundw
   case rel=>exact ⟨ao5,cap5,k+1,rfl,hlt,by go_num,S5.out,K5.out,O5.out⟩
   case measure=>simp [intOf];omega
  ·obtain rfl:k=n:=by omega
   have HB2:=Hz (HB1.out.same KR.out)
   have hrl:(List.replicate k a).length=k:=List.length_replicate
   obtain ⟨_,_,e',rd,-,-⟩:=SR.out.rd
   cases e'
   have hmk:=HMake_c r 2 (List.replicate k a) ao cap HB2.out hr (fun j hj=>by rw [(List.mem_replicate.1 hj).2];exact ha) (by rw [hrl];simp [fitsW];omega) (by rw [List.map_replicate];exact rd) (fun ad e hb hn=>by
    subst e
    have h1:=HO.out ad.block rfl;have h2:=HB1.out.own_lt hn;omega) (by rw [hrl];exact HRM.out.1 _ HB2.out) (by rw [hrl];exact HRM.out.2)
   rw [hrl] at hmk
   simp only [List.map_replicate] at hmk
   have HMK:=Hz hmk
   clear hmk rd hrl
   go_wp2_with fail
   refine HMK.out.mono ?_
   rintro e w6 ⟨rfl,ht⟩
   have TO:=Hz (HeapTo.from_same (K1.out.trans KR.out) ht)
   clear ht s1 s2 sl
   go_wp2_with fail
   go_ret
   unfold HIntRet
   exact ⟨rfl,TO.out⟩
theorem HReg_c (a c:Nat) (xr xi xn:Int) (B:HeapAt w h O) (ha:a<12) (hc:c<12) :
  Calls Try.prog 28 #[.pointer (some ⟨h.p,0,none⟩), .agg #[.int .i64 9, .int .i64 xr, .int .i64 a, .int .i64 c, .int .i64 xi, .int .i64 xn]] w (HIntRet w h (O.reg a c)):=by
 have HB0:=Hz B
 have hb1:Blk (w.alloc (.cells #[.int .i64 9, .int .i64 xr, .int .i64 a, .int .i64 c, .int .i64 xi, .int .i64 xn] 23)) w.heap.size [.int .i64 9, .int .i64 xr, .int .i64 a, .int .i64 c, .int .i64 xi, .int .i64 xn] 23:=Blk.newAt _ rfl rfl
 have ka:=(Kz w).alloc (.cells #[.int .i64 9, .int .i64 xr, .int .i64 a, .int .i64 c, .int .i64 xi, .int .i64 xn] 23)
 have HB1:=Hz (B.same ka);have K1:=Hz ka;have SB1:=Hz hb1
 have SOW:=Hz (show ¬ h.Own w.heap.size from fun e=>by have:=B.own_lt e;omega)
 clear hb1 ka B
 go_enter Try.func28,Try.ntmps28
 go_wp2_with fail
 generalize w.alloc (.cells #[.int .i64 9, .int .i64 xr, .int .i64 a, .int .i64 c, .int .i64 xi, .int .i64 xn] 23)=w1 at *
 generalize w.heap.size=sb at *
 have s0:=SB1.out.cell 0;have s1:=SB1.out.cell 1;have s2:=SB1.out.cell 2;have s3:=SB1.out.cell 3;have s4:=SB1.out.cell 4;have s5:=SB1.out.cell 5;have sl:=SB1.out.lt
 simp only [List.getElem?_cons_zero,List.getElem?_cons_succ] at s0 s1 s2 s3 s4 s5
 have HRG:=Hz (show O.reg a c=if (O.ar.thingAt (O.rtA a)).2.2.2≠0 then ((O.ar.thingAt (O.rtA a)).2.2.2,O) else if O.isG (O.rtA c)=false then (2,O) else if 24≤O.rg.length+O.wt.length then (3,O) else (0, { O with rg:=O.rg ++ [(O.rtA c,O.rtA a)] }) from rfl)
 have HRa:=Hz (rtA_R64 HB1.out.H.ok (a:Int));have HRc:=Hz (rtA_R64 HB1.out.H.ok (c:Int))
 obtain ⟨b0,bl⟩:=HB1.out.pc
 obtain ⟨g,o,cap,hro,hown,q0,q3,ql,gl,fz,rc⟩:=HB1.out.roots
 have ra:=rc a ha
 have hai:(a:Int)<12:=by omega
 have hkd:=fun w' (R:WoodAt w' h.a O)=>Kind_c (O.rtA a) R
 clear hro hown fz rc
 have ra:w1.cell? ⟨g,o+a,none⟩=some (.int .i64 (O.rtA a)):=ra
 generalize hva:O.rtA (a:Int)=va at *
 have HVA:=Hz hva
 clear hva
 obtain ⟨⟨p1,kd,n1,e1⟩,hT1⟩:∃ t,O.ar.thingAt va=t:=⟨_,rfl⟩
 simp only [hT1] at hkd
 have HK:=Hz hkd;have HT1:=Hz hT1
 clear hkd hT1
 go_wp2_with fail
 refine wp_region_ro (.free 0 (.free 1 (.free 2 (.free 4 (.free 5 (.free 6 (.free 11 (.pure 3 (.pure 7 (.free 8 (.free 9 (.pure 10 (.pure 12 (.free 13 (.pure 14 (.run 15 (.swi [] (.free 16 (.free 17 (.free 18 (.free 19 (.free 20 (.free 21 (.free 22 (.fin))))))))))))))))))))))))) [15,16,17,18,19,20,21,22] (fun w'=>w'.cell? ⟨h.p,0,none⟩=some (.pointer (some ⟨h.a.p,0,none⟩))∧w'.cell? ⟨h.a.p,3,none⟩=some (.slice (some ⟨g,o,none⟩) 12 cap)∧w'.cell? ⟨g,o+a,none⟩=some (.int .i64 va)∧w'.cell? ⟨sb,2,none⟩=some (.int .i64 a)) (by kernel_rfl) (by kernel_rfl) ⟨b0,q3,ra,s2⟩ ?_
 iterate 15 first | (refine wpRO_free rfl rfl _ (fun w'=>by go_simp;exact Gives.mk _ _) (fun K hK=>?_);go_simp;refine hK _ ?_;clear hK K) | (refine wpRO_skipF rfl rfl (fun K hK=>?_);go_simp;refine hK _ ?_;clear hK K) | (refine wpRO_pure rfl rfl _ (fun w' hG=>by obtain ⟨b0,q3,ra,s2⟩:=hG;exact gives_agg2 rfl (by decide +kernel) rfl (by assumption) (by assumption)) (fun K hK=>?_);go_simp;refine hK _ ?_;clear hK K) | (refine wpRO_pure rfl rfl _ (fun w' hG=>by obtain ⟨b0,q3,ra,s2⟩:=hG;go_simp;exact Gives.mk _ _) (fun K hK=>?_);go_simp;refine hK _ ?_;clear hK K) | (refine wpRO_skip rfl rfl (fun K hK=>?_);go_simp;refine hK _ ?_;clear hK K)
 refine wpRO_chg rfl rfl rfl (fun K hK=>?_);unfold gRun;go_simp
 refine (HK.out _ (HB1.out.same ((Kz w1).drew)).H).mono ?_
 rintro e3 w3 ⟨rfl,rfl⟩
 refine hK _ _ ?_
 clear hK K
 refine wpRO_swi (fun _=>True) trivial ?_
 iterate 7 first | (refine wpRO_free rfl rfl _ (fun w'=>by go_simp;exact Gives.mk _ _) (fun K hK=>?_);go_simp;refine hK _ ?_;clear hK K) | (refine wpRO_skipF rfl rfl (fun K hK=>?_);go_simp;refine hK _ ?_;clear hK K)
 refine wpRO_fin ?_
 have kd1:=(Kz w1).drew
 have HB2:=Hz (HB1.out.same kd1);have K2:=Hz (K1.out.trans kd1);have SB2:=Hz (kd1.blk SB1.out (fun h=>h))
 clear kd1 s0 s1 s2 s3 s4 s5 sl HB1 K1 SB1 b0 bl q0 q3 ql gl ra HK
 generalize w1.drew=w2 at *
 rw [HT1.out] at HRG
 dsimp only at HRG
 have s2:=SB2.out.cell 2;have s3:=SB2.out.cell 3;have sl:=SB2.out.lt
 simp only [List.getElem?_cons_zero,List.getElem?_cons_succ] at s2 s3
 unfold HIntRet
 by_cases he1:e1=0
 case neg=>
  have hd1:(e1 != 0)=true:=by simpa using he1
  have HE:=Hz (show O.reg a c=(e1,O) by rw [HRG.out,if_pos he1])
  clear he1
  go_wp2_with fail
  go_ret
  rw [HE.out]
  exact ⟨rfl,HeapTo.same HB0.out K2.out⟩
 subst he1
 go_wp2_with fail
 refine (HGuard_c c HB2.out hc).mono ?_
 rintro e w3 ⟨rfl,hk3⟩
 have HB3:=Hz (HB2.out.same hk3);have K3:=Hz (K2.out.trans hk3);have SB3:=Hz (hk3.blk SB2.out (fun h=>h))
 clear hk3 s2 s3 sl HB2 K2 SB2
 have s2:=SB3.out.cell 2;have s3:=SB3.out.cell 3;have sl:=SB3.out.lt
 simp only [List.getElem?_cons_zero,List.getElem?_cons_succ] at s2 s3
 cases hg:O.isG (O.rtA (c:Int))
 ·have HE:=Hz (show O.reg a c=(2,O) by rw [HRG.out,if_neg (by decide),if_pos hg])
  have hgc:guardC O (O.rtA c)=(0,2):=by unfold guardC;rw [hg];rfl
  rw [hgc]
  clear hg hgc
  go_wp2_with fail
  go_ret
  rw [HE.out]
  exact ⟨rfl,HeapTo.same HB0.out K3.out⟩
 have hgc:guardC O (O.rtA c)=(O.rtA c,0):=by unfold guardC;rw [hg];rfl
 rw [hgc]
 have HR2:=Hz (show O.reg a c=if 24≤O.rg.length+O.wt.length then (3,O) else (0, { O with rg:=O.rg ++ [(O.rtA c,va)] }) by rw [HRG.out,if_neg (by decide),if_neg (by rw [hg];decide)])
 clear hg hgc HRG
 generalize O.rtA (c:Int)=vc at *
 obtain ⟨b0,bl⟩:=HB3.out.pc
 obtain ⟨g,o,cap,hro,hown,q0,q3,ql,gl,fz,rc⟩:=HB3.out.roots
 have q2:=HB3.out.H.ptrs.2.2.1
 have ra:=rc a ha
 have ra:w3.cell? ⟨g,o+a,none⟩=some (.int .i64 (O.rtA a)):=ra
 rw [HVA.out] at ra
 clear hro hown fz rc
 have h24l:=HB3.out.H.ok.hq
 have hsd:=HB3.out.H.hs
 by_cases h24:24≤O.rg.length+O.wt.length
 ·have HE:=Hz (show O.reg a c=(3,O) by rw [HR2.out,if_pos h24])
  have hreg:=Reg_full h.a.ps h.a.rv h.a.wv O.rg O.wt vc va (w3.drew) (hsd.keep (Kz w3).drew (fun _ _ h=>h)) (by omega) (by omega) h24
  have HREG:=Hz hreg
  clear hreg hsd h24
  go_wp2_with fail
  refine wp_region_ro (.free 0 (.free 1 (.free 2 (.free 7 (.free 8 (.free 9 (.free 10 (.free 15 (.pure 3 (.free 4 (.free 5 (.pure 6 (.pure 11 (.free 12 (.free 13 (.pure 14 (.pure 16 (.free 17 (.pure 18 (.free 19 (.run 20 (.swi [] (.free 21 (.fin)))))))))))))))))))))))) [20,21] (fun w'=>w'.cell? ⟨h.p,0,none⟩=some (.pointer (some ⟨h.a.p,0,none⟩))∧w'.cell? ⟨h.a.p,3,none⟩=some (.slice (some ⟨g,o,none⟩) 12 cap)∧w'.cell? ⟨g,o+a,none⟩=some (.int .i64 va)∧w'.cell? ⟨h.a.p,2,none⟩=some (.pointer (some ⟨h.a.ps,0,none⟩))∧w'.cell? ⟨sb,2,none⟩=some (.int .i64 a)) (by kernel_rfl) (by kernel_rfl) ⟨b0,q3,ra,q2,s2⟩ ?_
  iterate 20 first | (refine wpRO_free rfl rfl _ (fun w'=>by go_simp;exact Gives.mk _ _) (fun K hK=>?_);go_simp;refine hK _ ?_;clear hK K) | (refine wpRO_skipF rfl rfl (fun K hK=>?_);go_simp;refine hK _ ?_;clear hK K) | (refine wpRO_pure rfl rfl _ (fun w' hG=>by obtain ⟨b0,q3,ra,q2,s2⟩:=hG;exact gives_agg2 rfl (by decide +kernel) rfl (by assumption) (by assumption)) (fun K hK=>?_);go_simp;refine hK _ ?_;clear hK K) | (refine wpRO_pure rfl rfl _ (fun w' hG=>by obtain ⟨b0,q3,ra,q2,s2⟩:=hG;go_simp;exact Gives.mk _ _) (fun K hK=>?_);go_simp;refine hK _ ?_;clear hK K) | (refine wpRO_skip rfl rfl (fun K hK=>?_);go_simp;refine hK _ ?_;clear hK K)
  refine wpRO_chg rfl rfl rfl (fun K hK=>?_);unfold gRun;go_simp
  refine HREG.out.mono ?_
  rintro e5 w5 ⟨rfl,hk⟩
  refine hK _ _ ?_
  clear hK K
  refine wpRO_swi (fun _=>True) trivial ?_
  iterate 1 first | (refine wpRO_free rfl rfl _ (fun w'=>by go_simp;exact Gives.mk _ _) (fun K hK=>?_);go_simp;refine hK _ ?_;clear hK K) | (refine wpRO_skipF rfl rfl (fun K hK=>?_);go_simp;refine hK _ ?_;clear hK K)
  refine wpRO_fin ?_
  have K4:=Hz (K3.out.trans ((Kz w3).drew.trans hk))
  clear hk b0 bl q0 q2 q3 ql gl ra s2 s3 sl
  go_wp2_with fail
  go_ret
  rw [HE.out]
  exact ⟨rfl,HeapTo.same HB0.out K4.out⟩
 ·have HE:=Hz (show O.reg a c=(0, { O with rg:=O.rg ++ [(vc,va)] }) by rw [HR2.out,if_neg h24])
  have HOK:=Hz (HB3.out.H.ok.regs HRc.out HRa.out h24)
  have hreg:=Reg_room h.a.ps h.a.rv h.a.wv O.rg O.wt vc va (w3.drew) (hsd.keep (Kz w3).drew (fun _ _ h=>h)) (by omega) (by omega) h24
  have HREG:=Hz hreg
  clear hreg hsd h24
  go_wp2_with fail
  refine wp_region_ro (.free 0 (.free 1 (.free 2 (.free 7 (.free 8 (.free 9 (.free 10 (.free 15 (.pure 3 (.free 4 (.free 5 (.pure 6 (.pure 11 (.free 12 (.free 13 (.pure 14 (.pure 16 (.free 17 (.pure 18 (.free 19 (.run 20 (.swi [] (.free 21 (.fin)))))))))))))))))))))))) [20,21] (fun w'=>w'.cell? ⟨h.p,0,none⟩=some (.pointer (some ⟨h.a.p,0,none⟩))∧w'.cell? ⟨h.a.p,3,none⟩=some (.slice (some ⟨g,o,none⟩) 12 cap)∧w'.cell? ⟨g,o+a,none⟩=some (.int .i64 va)∧w'.cell? ⟨h.a.p,2,none⟩=some (.pointer (some ⟨h.a.ps,0,none⟩))∧w'.cell? ⟨sb,2,none⟩=some (.int .i64 a)) (by kernel_rfl) (by kernel_rfl) ⟨b0,q3,ra,q2,s2⟩ ?_
  iterate 20 first | (refine wpRO_free rfl rfl _ (fun w'=>by go_simp;exact Gives.mk _ _) (fun K hK=>?_);go_simp;refine hK _ ?_;clear hK K) | (refine wpRO_skipF rfl rfl (fun K hK=>?_);go_simp;refine hK _ ?_;clear hK K) | (refine wpRO_pure rfl rfl _ (fun w' hG=>by obtain ⟨b0,q3,ra,q2,s2⟩:=hG;exact gives_agg2 rfl (by decide +kernel) rfl (by assumption) (by assumption)) (fun K hK=>?_);go_simp;refine hK _ ?_;clear hK K) | (refine wpRO_pure rfl rfl _ (fun w' hG=>by obtain ⟨b0,q3,ra,q2,s2⟩:=hG;go_simp;exact Gives.mk _ _) (fun K hK=>?_);go_simp;refine hK _ ?_;clear hK K) | (refine wpRO_skip rfl rfl (fun K hK=>?_);go_simp;refine hK _ ?_;clear hK K)
  refine wpRO_chg rfl rfl rfl (fun K hK=>?_);unfold gRun;go_simp
  refine HREG.out.mono ?_
  rintro e5 w5 ⟨rfl,hs5⟩
  refine hK _ _ ?_
  clear hK K
  refine wpRO_swi (fun _=>True) trivial ?_
  iterate 1 first | (refine wpRO_free rfl rfl _ (fun w'=>by go_simp;exact Gives.mk _ _) (fun K hK=>?_);go_simp;refine hK _ ?_;clear hK K) | (refine wpRO_skipF rfl rfl (fun K hK=>?_);go_simp;refine hK _ ?_;clear hK K)
  refine wpRO_fin ?_
  have TO:=Hz (HeapTo.from_same K3.out.drew (HeapTo.wood (HB3.out.same (Kz w3).drew) ((HB3.out.H.keep (Kz w3).drew (fun _ _ h=>h)).sideTo hs5 HOK.out)))
  clear hs5 b0 bl q0 q2 q3 ql gl ra s2 s3 sl
  go_wp2_with fail
  go_ret
  rw [HE.out]
  exact ⟨rfl,TO.out⟩
theorem Wo.ok.pops {O:Wo} (h:O.ok) {wt:List (Int × Int)} (h1:∀ e ∈ wt,e ∈ O.wt) (h2:wt.length≤O.wt.length):Wo.ok { O with rg:=O.rg,wt:=wt }:=
 ⟨h.ha,h.h12,h.hR,h.hg,fun e he=>h.hw e (h1 e he),by have:=h.hq;show O.rg.length+wt.length≤24;omega,h.hc⟩
theorem HPop_c (r a:Nat) (xb xi xn:Int) (B:HeapAt w h O) (hr:r<12) (ha:a<12) :
  Calls Try.prog 29 #[.pointer (some ⟨h.p,0,none⟩), .agg #[.int .i64 10, .int .i64 r, .int .i64 a, .int .i64 xb, .int .i64 xi, .int .i64 xn]] w (HIntRet w h (O.pop r a)):=by
 have HB0:=Hz B
 have hb1:Blk (w.alloc (.cells #[.int .i64 10, .int .i64 r, .int .i64 a, .int .i64 xb, .int .i64 xi, .int .i64 xn] 23)) w.heap.size [.int .i64 10, .int .i64 r, .int .i64 a, .int .i64 xb, .int .i64 xi, .int .i64 xn] 23:=Blk.newAt _ rfl rfl
 have ka:=(Kz w).alloc (.cells #[.int .i64 10, .int .i64 r, .int .i64 a, .int .i64 xb, .int .i64 xi, .int .i64 xn] 23)
 have HB1:=Hz (B.same ka);have K1:=Hz ka;have SB1:=Hz hb1
 have SOW:=Hz (show ¬ h.Own w.heap.size from fun e=>by have:=B.own_lt e;omega)
 clear hb1 ka B
 go_enter Try.func29,Try.ntmps29
 go_wp2_with fail
 generalize w.alloc (.cells #[.int .i64 10, .int .i64 r, .int .i64 a, .int .i64 xb, .int .i64 xi, .int .i64 xn] 23)=w1 at *
 generalize w.heap.size=sb at *
 have s0:=SB1.out.cell 0;have s1:=SB1.out.cell 1;have s2:=SB1.out.cell 2;have s3:=SB1.out.cell 3;have s4:=SB1.out.cell 4;have s5:=SB1.out.cell 5;have sl:=SB1.out.lt
 simp only [List.getElem?_cons_zero,List.getElem?_cons_succ] at s0 s1 s2 s3 s4 s5
 have HP0:=Hz (show O.isG (O.rtA a)=false→O.pop r a=(2,O) from fun h=>by unfold Wo.pop;rw [if_pos h])
 have HPN:=Hz (show O.isG (O.rtA a)=true→popW O.wt (O.rtA a)=none→O.pop r a=(4,O) from fun h h2=>by unfold Wo.pop;rw [if_neg (by rw [h];decide),h2])
 have HPS:=Hz (show O.isG (O.rtA a)=true→∀ q,popW O.wt (O.rtA a)=some q→O.pop r a=(0, { O with wt:=q.2,rt:=O.rt.set r q.1 }) from fun h q h2=>by unfold Wo.pop;rw [if_neg (by rw [h];decide),h2];rfl)
 unfold HIntRet
 go_wp2_with fail
 refine (HGuard_c a HB1.out ha).mono ?_
 rintro e w3 ⟨rfl,hk3⟩
 have HB3:=Hz (HB1.out.same hk3);have K3:=Hz (K1.out.trans hk3);have SB3:=Hz (hk3.blk SB1.out (fun h=>h))
 clear hk3 s0 s1 s2 s3 s4 s5 sl HB1 K1 SB1
 cases hg:O.isG (O.rtA (a:Int))
 ·have HE:=Hz (HP0.out hg)
  have hgc:guardC O (O.rtA a)=(0,2):=by unfold guardC;rw [hg];rfl
  rw [hgc]
  clear hg hgc
  go_wp2_with fail
  go_ret
  rw [HE.out]
  exact ⟨rfl,HeapTo.same HB0.out K3.out⟩
 have hgc:guardC O (O.rtA a)=(O.rtA a,0):=by unfold guardC;rw [hg];rfl
 rw [hgc]
 have HPN:=Hz (HPN.out hg);have HPS:=Hz (HPS.out hg)
 have HRa:=Hz (rtA_R64 HB3.out.H.ok (a:Int))
 clear hg hgc HP0
 generalize O.rtA (a:Int)=va at *
 obtain ⟨b0,bl⟩:=HB3.out.pc
 have q2:=HB3.out.H.ptrs.2.2.1;have ql:=HB3.out.H.hp.lt
 have h24l:=HB3.out.H.ok.hq
 have hsd:=HB3.out.H.hs
 have hpf:=popW_find O.wt va
 by_cases hf:findG va O.wt<O.wt.length
 ·rw [if_pos hf] at hpf
  have HPP:=Hz (HPS.out _ hpf)
  dsimp only at HPP
  have hm:O.wt.length=findG va O.wt+1+(O.wt.length-findG va O.wt-1):=by omega
  have hpop:=Pop_some h.a.ps h.a.rv h.a.wv O.rg O.wt va _ _ w3 hsd (by omega) rfl hm
  have hpm:=popW_mem hpf
  have HOK:=Hz (HB3.out.H.ok.pops hpm.2.1 (by have:=hpm.2.2;omega))
  have HXR:=Hz (show R64 (O.wt.getD (findG va O.wt) (0,0)).2 from (HB3.out.H.ok.hw _ hpm.1).2)
  have HPO:=Hz hpop
  clear hm hpop hpm hpf hf hsd h24l
  generalize (O.wt.getD (findG va O.wt) (0,0)).2=x at *
  generalize O.wt.eraseIdx (findG va O.wt)=wt2 at *
  go_wp2_with fail
  refine HPO.out.mono ?_
  rintro e5 w5 ⟨rfl,hs5⟩
  have TO:=Hz (HeapTo.wood HB3.out (HB3.out.H.sideTo hs5 HOK.out))
  have SNO:=Hz (show ¬ h.Own sb from SOW.out)
  clear hs5 b0 bl q2 ql HPO
  obtain ⟨h5,B5,ep,k5,o5⟩:=TO.out
  have HB5:=Hz B5;have EP:=Hz ep;have K5:=Hz k5;have O5:=Hz o5;have SB5:=Hz (k5.blk SB3.out SNO.out)
  clear B5 k5 o5
  have s1:=SB5.out.cell 1;have sl:=SB5.out.lt
  simp only [List.getElem?_cons_zero,List.getElem?_cons_succ] at s1
  have hput:=HPut_c r x 0 HB5.out hr HXR.out
  rw [ep] at hput
  have HPT:=Hz hput
  clear ep hput
  go_wp2_with fail
  refine HPT.out.mono ?_
  rintro e w6 ⟨rfl,ht⟩
  have T6:=Hz (show HeapTo w h w6 (O.pop r a).2 by
   rw [HPP.out]
   exact ⟨h5,ht.1,EP.out,((K3.out.mono (fun _ _ h=>h.elim)).trans K5.out).then ht.2 (fun k hk=>(O5.out k hk).imp id (fun h=>Nat.le_trans K3.out.size h)),fun k hk=>(O5.out k hk).imp id (fun h=>Nat.le_trans K3.out.size h)⟩)
  clear ht s1 sl
  go_wp2_with fail
  go_ret
  exact ⟨by rw [HPP.out];rfl,T6.out⟩
 ·rw [if_neg hf] at hpf
  have HPP:=Hz (HPN.out hpf)
  have HPO:=Hz (Pop_none h.a.ps h.a.rv h.a.wv O.rg O.wt va w3 hsd (by omega) hf)
  clear hpf hf hsd h24l
  go_wp2_with fail
  refine HPO.out.mono ?_
  rintro e5 w5 ⟨rfl,hk⟩
  have K4:=Hz (K3.out.trans hk)
  clear hk b0 bl q2 ql
  go_wp2_with fail
  go_ret
  rw [HPP.out]
  exact ⟨rfl,HeapTo.same HB0.out K4.out⟩
theorem HLength_c (r a:Nat) (xb xi xn:Int) (B:HeapAt w h O) (hr:r<12) (ha:a<12) :
  Calls Try.prog 32 #[.pointer (some ⟨h.p,0,none⟩), .agg #[.int .i64 13, .int .i64 r, .int .i64 a, .int .i64 xb, .int .i64 xi, .int .i64 xn]] w (HIntRet w h (O.putC r (O.lenC (O.rtA a)))):=by
 have HB0:=Hz B
 have hb1:Blk (w.alloc (.cells #[.int .i64 13, .int .i64 r, .int .i64 a, .int .i64 xb, .int .i64 xi, .int .i64 xn] 23)) w.heap.size [.int .i64 13, .int .i64 r, .int .i64 a, .int .i64 xb, .int .i64 xi, .int .i64 xn] 23:=Blk.newAt _ rfl rfl
 have ka:=(Kz w).alloc (.cells #[.int .i64 13, .int .i64 r, .int .i64 a, .int .i64 xb, .int .i64 xi, .int .i64 xn] 23)
 have HB1:=Hz (B.same ka);have K1:=Hz ka;have SB1:=Hz hb1
 have SOW:=Hz (show ¬ h.Own w.heap.size from fun e=>by have:=B.own_lt e;omega)
 clear hb1 ka B
 go_enter Try.func32,Try.ntmps32
 go_wp2_with fail
 generalize w.alloc (.cells #[.int .i64 13, .int .i64 r, .int .i64 a, .int .i64 xb, .int .i64 xi, .int .i64 xn] 23)=w1 at *
 generalize w.heap.size=sb at *
 have s0:=SB1.out.cell 0;have s1:=SB1.out.cell 1;have s2:=SB1.out.cell 2;have s3:=SB1.out.cell 3;have s4:=SB1.out.cell 4;have s5:=SB1.out.cell 5;have sl:=SB1.out.lt
 simp only [List.getElem?_cons_zero,List.getElem?_cons_succ] at s0 s1 s2 s3 s4 s5
 have HLN:=Hz (show ∀ x,O.lenC x=if (O.ar.thingAt x).2.2.2=0∧(O.ar.thingAt x).2.1=5 then (4*(O.ar.thingAt x).2.2.1,2) else (4*(O.ar.thingAt x).2.2.1,(O.ar.thingAt x).2.2.2) from fun x=>rfl)
 obtain ⟨b0,bl⟩:=HB1.out.pc
 obtain ⟨g,o,cap,hro,hown,q0,q3,ql,gl,fz,rc⟩:=HB1.out.roots
 have ra:=rc a ha
 have hai:(a:Int)<12:=by omega
 have hkd:=fun w' (R:WoodAt w' h.a O)=>Kind_c (O.rtA a) R
 clear hro hown fz rc
 have ra:w1.cell? ⟨g,o+a,none⟩=some (.int .i64 (O.rtA a)):=ra
 generalize hva:O.rtA (a:Int)=va at *
 have HVA:=Hz hva
 clear hva
 obtain ⟨⟨p1,kd,n1,e1⟩,hT1⟩:∃ t,O.ar.thingAt va=t:=⟨_,rfl⟩
 simp only [hT1] at hkd
 have HK:=Hz hkd;have HT1:=Hz hT1
 clear hkd hT1
 go_wp2_with fail
 refine wp_region_ro (.free 0 (.free 1 (.free 2 (.free 4 (.free 5 (.free 6 (.free 11 (.pure 3 (.pure 7 (.free 8 (.free 9 (.pure 10 (.pure 12 (.free 13 (.pure 14 (.run 15 (.swi [] (.free 16 (.free 17 (.free 18 (.free 19 (.free 20 (.free 21 (.free 22 (.fin))))))))))))))))))))))))) [15,16,17,18,19,20,21,22] (fun w'=>w'.cell? ⟨h.p,0,none⟩=some (.pointer (some ⟨h.a.p,0,none⟩))∧w'.cell? ⟨h.a.p,3,none⟩=some (.slice (some ⟨g,o,none⟩) 12 cap)∧w'.cell? ⟨g,o+a,none⟩=some (.int .i64 va)∧w'.cell? ⟨sb,2,none⟩=some (.int .i64 a)) (by kernel_rfl) (by kernel_rfl) ⟨b0,q3,ra,s2⟩ ?_
 iterate 15 first | (refine wpRO_free rfl rfl _ (fun w'=>by go_simp;exact Gives.mk _ _) (fun K hK=>?_);go_simp;refine hK _ ?_;clear hK K) | (refine wpRO_skipF rfl rfl (fun K hK=>?_);go_simp;refine hK _ ?_;clear hK K) | (refine wpRO_pure rfl rfl _ (fun w' hG=>by obtain ⟨b0,q3,ra,s2⟩:=hG;exact gives_agg2 rfl (by decide +kernel) rfl (by assumption) (by assumption)) (fun K hK=>?_);go_simp;refine hK _ ?_;clear hK K) | (refine wpRO_pure rfl rfl _ (fun w' hG=>by obtain ⟨b0,q3,ra,s2⟩:=hG;go_simp;exact Gives.mk _ _) (fun K hK=>?_);go_simp;refine hK _ ?_;clear hK K) | (refine wpRO_skip rfl rfl (fun K hK=>?_);go_simp;refine hK _ ?_;clear hK K)
 refine wpRO_chg rfl rfl rfl (fun K hK=>?_);unfold gRun;go_simp
 refine (HK.out _ (HB1.out.same ((Kz w1).drew)).H).mono ?_
 rintro e3 w3 ⟨rfl,rfl⟩
 refine hK _ _ ?_
 clear hK K
 refine wpRO_swi (fun _=>True) trivial ?_
 iterate 7 first | (refine wpRO_free rfl rfl _ (fun w'=>by go_simp;exact Gives.mk _ _) (fun K hK=>?_);go_simp;refine hK _ ?_;clear hK K) | (refine wpRO_skipF rfl rfl (fun K hK=>?_);go_simp;refine hK _ ?_;clear hK K)
 refine wpRO_fin ?_
 have kd1:=(Kz w1).drew
 have HB2:=Hz (HB1.out.same kd1);have K2:=Hz (K1.out.trans kd1);have SB2:=Hz (kd1.blk SB1.out (fun h=>h))
 clear kd1 s0 s1 s2 s3 s4 s5 sl HB1 K1 SB1 b0 bl q0 q3 ql gl ra HK
 generalize w1.drew=w2 at *
 have HN1:=Hz (show 0≤n1∧n1≤12 from by
  have h1:=HT1.out
  unfold Ar.thingAt at h1
  split at h1
  ·have:=O.ar.thing_fields (va/4)
   cases h1;exact this
  ·cases h1;decide)
 have HLN:=Hz (HLN.out va)
 rw [HT1.out] at HLN
 dsimp only at HLN
 have HX:=Hz (show R64 (4*n1) by have:=HN1.out;unfold R64;omega)
 have NUM:=Hz (fun w=>HNumber_c n1 w (by have:=HN1.out;unfold big;omega))
 have s1:=SB2.out.cell 1;have s2:=SB2.out.cell 2;have sl:=SB2.out.lt
 simp only [List.getElem?_cons_zero,List.getElem?_cons_succ] at s1 s2
 by_cases h5:e1=0∧kd=5
 ·have HE:=Hz (show O.lenC va=(4*n1,2) by rw [HLN.out,if_pos h5])
  obtain ⟨rfl,rfl⟩:=h5
  go_wp2_with fail
  refine wp_region_ro (.free 0 (.free 1 (.free 3 (.free 5 (.pure 2 (.run 4 (.run 6 (.swi [] (.free 7 (.fin)))))))))) [6,7] (fun w'=>w'.cell? ⟨sb,1,none⟩=some (.int .i64 r)) (by kernel_rfl) (by kernel_rfl) s1 ?_
  iterate 5 first | (refine wpRO_free rfl rfl _ (fun w'=>by go_simp;exact Gives.mk _ _) (fun K hK=>?_);go_simp;refine hK _ ?_;clear hK K) | (refine wpRO_skipF rfl rfl (fun K hK=>?_);go_simp;refine hK _ ?_;clear hK K) | (refine wpRO_pure rfl rfl _ (fun w' hG=>by obtain s1:=hG;exact gives_agg2 rfl (by decide +kernel) rfl (by assumption) (by assumption)) (fun K hK=>?_);go_simp;refine hK _ ?_;clear hK K) | (refine wpRO_pure rfl rfl _ (fun w' hG=>by obtain s1:=hG;go_simp;exact Gives.mk _ _) (fun K hK=>?_);go_simp;refine hK _ ?_;clear hK K) | (refine wpRO_skip rfl rfl (fun K hK=>?_);go_simp;refine hK _ ?_;clear hK K)
  refine wpRO_run rfl rfl (fun K hK=>?_);unfold gRun;go_simp
  refine (NUM.out _).mono ?_
  rintro e w7 ⟨rfl,hk7⟩
  have kk:=(Kz w2).drew.trans hk7
  have HB7:=Hz (HB2.out.same kk);have K7:=Hz (K2.out.trans kk);have SB7:=Hz (kk.blk SB2.out (fun h=>h))
  refine hK _ _ (fun _=>SB7.out.cell 1) ?_
  clear hK K hk7 kk HB2 K2 SB2 s1 s2 sl
  have s1:=SB7.out.cell 1;have sl:=SB7.out.lt
  simp only [List.getElem?_cons_zero,List.getElem?_cons_succ] at s1
  skip
  refine wpRO_chg rfl rfl rfl (fun K hK=>?_);unfold gRun;go_simp
  refine (HPut_c r (4*n1) (2) HB7.out hr HX.out).mono ?_
  rintro e w8 ⟨rfl,ht⟩
  have TO:=Hz (HeapTo.from_same K7.out ht.to)
  refine hK _ _ ?_
  clear hK K ht s1 sl
  refine wpRO_swi (fun _=>True) trivial ?_
  iterate 1 first | (refine wpRO_free rfl rfl _ (fun w'=>by go_simp;exact Gives.mk _ _) (fun K hK=>?_);go_simp;refine hK _ ?_;clear hK K) | (refine wpRO_skipF rfl rfl (fun K hK=>?_);go_simp;refine hK _ ?_;clear hK K)
  refine wpRO_fin ?_
  go_wp2_with fail
  go_ret
  unfold HIntRet
  rw [HE.out]
  exact ⟨rfl,TO.out⟩
 ·have HE:=Hz (show O.lenC va=(4*n1,e1) by rw [HLN.out,if_neg h5])
  by_cases he1:e1=0
  ·have hk5:¬ kd=5:=fun h=>h5 ⟨he1,h⟩
   subst he1
   have hd:(kd == 5)=false:=by simpa using hk5
   clear h5 hk5
   go_wp2_with fail
   refine wp_region_ro (.free 0 (.free 1 (.free 3 (.free 5 (.pure 2 (.run 4 (.run 6 (.swi [] (.free 7 (.fin)))))))))) [6,7] (fun w'=>w'.cell? ⟨sb,1,none⟩=some (.int .i64 r)) (by kernel_rfl) (by kernel_rfl) s1 ?_
   iterate 5 first | (refine wpRO_free rfl rfl _ (fun w'=>by go_simp;exact Gives.mk _ _) (fun K hK=>?_);go_simp;refine hK _ ?_;clear hK K) | (refine wpRO_skipF rfl rfl (fun K hK=>?_);go_simp;refine hK _ ?_;clear hK K) | (refine wpRO_pure rfl rfl _ (fun w' hG=>by obtain s1:=hG;exact gives_agg2 rfl (by decide +kernel) rfl (by assumption) (by assumption)) (fun K hK=>?_);go_simp;refine hK _ ?_;clear hK K) | (refine wpRO_pure rfl rfl _ (fun w' hG=>by obtain s1:=hG;go_simp;exact Gives.mk _ _) (fun K hK=>?_);go_simp;refine hK _ ?_;clear hK K) | (refine wpRO_skip rfl rfl (fun K hK=>?_);go_simp;refine hK _ ?_;clear hK K)
   refine wpRO_run rfl rfl (fun K hK=>?_);unfold gRun;go_simp
   refine (NUM.out _).mono ?_
   rintro e w7 ⟨rfl,hk7⟩
   have kk:=(Kz w2).drew.trans hk7
   have HB7:=Hz (HB2.out.same kk);have K7:=Hz (K2.out.trans kk);have SB7:=Hz (kk.blk SB2.out (fun h=>h))
   refine hK _ _ (fun _=>SB7.out.cell 1) ?_
   clear hK K hk7 kk HB2 K2 SB2 s1 s2 sl
   have s1:=SB7.out.cell 1;have sl:=SB7.out.lt
   simp only [List.getElem?_cons_zero,List.getElem?_cons_succ] at s1
   skip
   refine wpRO_chg rfl rfl rfl (fun K hK=>?_);unfold gRun;go_simp
   refine (HPut_c r (4*n1) (0) HB7.out hr HX.out).mono ?_
   rintro e w8 ⟨rfl,ht⟩
   have TO:=Hz (HeapTo.from_same K7.out ht.to)
   refine hK _ _ ?_
   clear hK K ht s1 sl
   refine wpRO_swi (fun _=>True) trivial ?_
   iterate 1 first | (refine wpRO_free rfl rfl _ (fun w'=>by go_simp;exact Gives.mk _ _) (fun K hK=>?_);go_simp;refine hK _ ?_;clear hK K) | (refine wpRO_skipF rfl rfl (fun K hK=>?_);go_simp;refine hK _ ?_;clear hK K)
   refine wpRO_fin ?_
   go_wp2_with fail
   go_ret
   unfold HIntRet
   rw [HE.out]
   exact ⟨rfl,TO.out⟩
  ·have hd:(e1 == 0)=false:=by simpa using he1
   clear h5 he1
   go_wp2_with fail
   refine wp_region_ro (.free 0 (.free 1 (.free 3 (.free 5 (.pure 2 (.run 4 (.run 6 (.swi [] (.free 7 (.fin)))))))))) [6,7] (fun w'=>w'.cell? ⟨sb,1,none⟩=some (.int .i64 r)) (by kernel_rfl) (by kernel_rfl) s1 ?_
   iterate 5 first | (refine wpRO_free rfl rfl _ (fun w'=>by go_simp;exact Gives.mk _ _) (fun K hK=>?_);go_simp;refine hK _ ?_;clear hK K) | (refine wpRO_skipF rfl rfl (fun K hK=>?_);go_simp;refine hK _ ?_;clear hK K) | (refine wpRO_pure rfl rfl _ (fun w' hG=>by obtain s1:=hG;exact gives_agg2 rfl (by decide +kernel) rfl (by assumption) (by assumption)) (fun K hK=>?_);go_simp;refine hK _ ?_;clear hK K) | (refine wpRO_pure rfl rfl _ (fun w' hG=>by obtain s1:=hG;go_simp;exact Gives.mk _ _) (fun K hK=>?_);go_simp;refine hK _ ?_;clear hK K) | (refine wpRO_skip rfl rfl (fun K hK=>?_);go_simp;refine hK _ ?_;clear hK K)
   refine wpRO_run rfl rfl (fun K hK=>?_);unfold gRun;go_simp
   refine (NUM.out _).mono ?_
   rintro e w7 ⟨rfl,hk7⟩
   have kk:=(Kz w2).drew.trans hk7
   have HB7:=Hz (HB2.out.same kk);have K7:=Hz (K2.out.trans kk);have SB7:=Hz (kk.blk SB2.out (fun h=>h))
   refine hK _ _ (fun _=>SB7.out.cell 1) ?_
   clear hK K hk7 kk HB2 K2 SB2 s1 s2 sl
   have s1:=SB7.out.cell 1;have sl:=SB7.out.lt
   simp only [List.getElem?_cons_zero,List.getElem?_cons_succ] at s1
   skip
   refine wpRO_chg rfl rfl rfl (fun K hK=>?_);unfold gRun;go_simp
   refine (HPut_c r (4*n1) (e1) HB7.out hr HX.out).mono ?_
   rintro e w8 ⟨rfl,ht⟩
   have TO:=Hz (HeapTo.from_same K7.out ht.to)
   refine hK _ _ ?_
   clear hK K ht s1 sl
   refine wpRO_swi (fun _=>True) trivial ?_
   iterate 1 first | (refine wpRO_free rfl rfl _ (fun w'=>by go_simp;exact Gives.mk _ _) (fun K hK=>?_);go_simp;refine hK _ ?_;clear hK K) | (refine wpRO_skipF rfl rfl (fun K hK=>?_);go_simp;refine hK _ ?_;clear hK K)
   refine wpRO_fin ?_
   go_wp2_with fail
   go_ret
   unfold HIntRet
   rw [HE.out]
   exact ⟨rfl,TO.out⟩
theorem HSame_c (r a c:Nat) (xi xn:Int) (B:HeapAt w h O) (hr:r<12) (ha:a<12) (hc:c<12) :
  Calls Try.prog 33 #[.pointer (some ⟨h.p,0,none⟩), .agg #[.int .i64 14, .int .i64 r, .int .i64 a, .int .i64 c, .int .i64 xi, .int .i64 xn]] w (HIntRet w h (O.putC r (4*(if O.rtA a=O.rtA c then 1 else 0),0))):=by
 by_cases heq:O.rtA (a:Int)=O.rtA (c:Int)
 ·rw [if_pos heq]
  have HVC:=Hz heq
  clear heq
  have HB0:=Hz B
  have hb1:Blk (w.alloc (.cells #[.int .i64 14, .int .i64 r, .int .i64 a, .int .i64 c, .int .i64 xi, .int .i64 xn] 23)) w.heap.size [.int .i64 14, .int .i64 r, .int .i64 a, .int .i64 c, .int .i64 xi, .int .i64 xn] 23:=Blk.newAt _ rfl rfl
  have ka:=(Kz w).alloc (.cells #[.int .i64 14, .int .i64 r, .int .i64 a, .int .i64 c, .int .i64 xi, .int .i64 xn] 23)
  have HB1:=Hz (B.same ka);have K1:=Hz ka;have SB1:=Hz hb1
  have SOW:=Hz (show ¬ h.Own w.heap.size from fun e=>by have:=B.own_lt e;omega)
  clear hb1 ka B
  go_enter Try.func33,Try.ntmps33
  go_wp2_with fail
  generalize w.alloc (.cells #[.int .i64 14, .int .i64 r, .int .i64 a, .int .i64 c, .int .i64 xi, .int .i64 xn] 23)=w1 at *
  generalize w.heap.size=sb at *
  have s0:=SB1.out.cell 0;have s1:=SB1.out.cell 1;have s2:=SB1.out.cell 2;have s3:=SB1.out.cell 3;have s4:=SB1.out.cell 4;have s5:=SB1.out.cell 5;have sl:=SB1.out.lt
  simp only [List.getElem?_cons_zero,List.getElem?_cons_succ] at s0 s1 s2 s3 s4 s5
  obtain ⟨b0,bl⟩:=HB1.out.pc
  obtain ⟨g,o,cap,hro,hown,q0,q3,ql,gl,fz,rc⟩:=HB1.out.roots
  have ra:=rc a ha;have rb:=rc c hc
  have hai:(a:Int)<12:=by omega
  have hci:(c:Int)<12:=by omega
  clear hro hown fz rc
  have ra:w1.cell? ⟨g,o+a,none⟩=some (.int .i64 (O.rtA a)):=ra
  have rb:w1.cell? ⟨g,o+c,none⟩=some (.int .i64 (O.rtA c)):=rb
  rw [HVC.out] at ra
  generalize O.rtA (c:Int)=va at *
  have hee:(va == va)=true:=by simp
  go_wp2_with fail
  refine wp_region_ro (.free 0 (.free 1 (.free 2 (.free 7 (.free 11 (.free 12 (.free 13 (.free 18 (.pure 3 (.free 4 (.free 5 (.pure 6 (.pure 8 (.free 9 (.pure 10 (.pure 14 (.free 15 (.free 16 (.pure 17 (.pure 19 (.free 20 (.pure 21 (.free 22 (.fin)))))))))))))))))))))))) [] (fun w'=>w'.cell? ⟨h.p,0,none⟩=some (.pointer (some ⟨h.a.p,0,none⟩))∧w'.cell? ⟨h.a.p,3,none⟩=some (.slice (some ⟨g,o,none⟩) 12 cap)∧w'.cell? ⟨g,o+a,none⟩=some (.int .i64 va)∧w'.cell? ⟨g,o+c,none⟩=some (.int .i64 va)∧w'.cell? ⟨sb,2,none⟩=some (.int .i64 a)∧w'.cell? ⟨sb,3,none⟩=some (.int .i64 c)) (by kernel_rfl) (by kernel_rfl) ⟨b0,q3,ra,rb,s2,s3⟩ ?_
  iterate 23 first | (refine wpRO_free rfl rfl _ (fun w'=>by go_simp;exact Gives.mk _ _) (fun K hK=>?_);go_simp;refine hK _ ?_;clear hK K) | (refine wpRO_skipF rfl rfl (fun K hK=>?_);go_simp;refine hK _ ?_;clear hK K) | (refine wpRO_pure rfl rfl _ (fun w' hG=>by obtain ⟨b0,q3,ra,rb,s2,s3⟩:=hG;exact gives_agg2 rfl (by decide +kernel) rfl (by assumption) (by assumption)) (fun K hK=>?_);go_simp;refine hK _ ?_;clear hK K) | (refine wpRO_pure rfl rfl _ (fun w' hG=>by obtain ⟨b0,q3,ra,rb,s2,s3⟩:=hG;go_simp;exact Gives.mk _ _) (fun K hK=>?_);go_simp;refine hK _ ?_;clear hK K) | (refine wpRO_skip rfl rfl (fun K hK=>?_);go_simp;refine hK _ ?_;clear hK K)
  refine wpRO_fin ?_
  have kd1:=(Kz w1).drew
  have HB2:=Hz (HB1.out.same kd1);have K2:=Hz (K1.out.trans kd1);have SB2:=Hz (kd1.blk SB1.out (fun h=>h))
  clear kd1 s0 s1 s2 s3 s4 s5 sl HB1 K1 SB1 b0 bl q0 q3 ql gl ra rb
  generalize w1.drew=w2 at *
  have s1:=SB2.out.cell 1;have s2:=SB2.out.cell 2;have sl:=SB2.out.lt
  simp only [List.getElem?_cons_zero,List.getElem?_cons_succ] at s1 s2
  have HX:=Hz (show R64 (4*1) by unfold R64;omega)
  have NUM:=Hz (fun w=>HNumber_c 1 w (by unfold big;omega))
  go_wp2_with fail
  refine wp_region_ro (.free 0 (.free 1 (.free 3 (.pure 2 (.run 4 (.run 5 (.swi [] (.free 6 (.fin))))))))) [5,6] (fun w'=>w'.cell? ⟨sb,1,none⟩=some (.int .i64 r)) (by kernel_rfl) (by kernel_rfl) s1 ?_
  iterate 4 first | (refine wpRO_free rfl rfl _ (fun w'=>by go_simp;exact Gives.mk _ _) (fun K hK=>?_);go_simp;refine hK _ ?_;clear hK K) | (refine wpRO_skipF rfl rfl (fun K hK=>?_);go_simp;refine hK _ ?_;clear hK K) | (refine wpRO_pure rfl rfl _ (fun w' hG=>by obtain s1:=hG;exact gives_agg2 rfl (by decide +kernel) rfl (by assumption) (by assumption)) (fun K hK=>?_);go_simp;refine hK _ ?_;clear hK K) | (refine wpRO_pure rfl rfl _ (fun w' hG=>by obtain s1:=hG;go_simp;exact Gives.mk _ _) (fun K hK=>?_);go_simp;refine hK _ ?_;clear hK K) | (refine wpRO_skip rfl rfl (fun K hK=>?_);go_simp;refine hK _ ?_;clear hK K)
  refine wpRO_run rfl rfl (fun K hK=>?_);unfold gRun;go_simp
  refine (NUM.out _).mono ?_
  rintro e w7 ⟨rfl,hk7⟩
  have kk:=(Kz w2).drew.trans hk7
  have HB7:=Hz (HB2.out.same kk);have K7:=Hz (K2.out.trans kk);have SB7:=Hz (kk.blk SB2.out (fun h=>h))
  refine hK _ _ (fun _=>SB7.out.cell 1) ?_
  clear hK K hk7 kk HB2 K2 SB2 s1 s2 sl
  have s1:=SB7.out.cell 1;have sl:=SB7.out.lt
  simp only [List.getElem?_cons_zero,List.getElem?_cons_succ] at s1
  skip
  refine wpRO_chg rfl rfl rfl (fun K hK=>?_);unfold gRun;go_simp
  refine (HPut_c r (4*1) (0) HB7.out hr HX.out).mono ?_
  rintro e w8 ⟨rfl,ht⟩
  have TO:=Hz (HeapTo.from_same K7.out ht.to)
  refine hK _ _ ?_
  clear hK K ht s1 sl
  refine wpRO_swi (fun _=>True) trivial ?_
  iterate 1 first | (refine wpRO_free rfl rfl _ (fun w'=>by go_simp;exact Gives.mk _ _) (fun K hK=>?_);go_simp;refine hK _ ?_;clear hK K) | (refine wpRO_skipF rfl rfl (fun K hK=>?_);go_simp;refine hK _ ?_;clear hK K)
  refine wpRO_fin ?_
  go_wp2_with fail
  go_ret
  unfold HIntRet
  exact ⟨rfl,TO.out⟩
 ·rw [if_neg heq]
  have HVC:=Hz heq
  clear heq
  have HB0:=Hz B
  have hb1:Blk (w.alloc (.cells #[.int .i64 14, .int .i64 r, .int .i64 a, .int .i64 c, .int .i64 xi, .int .i64 xn] 23)) w.heap.size [.int .i64 14, .int .i64 r, .int .i64 a, .int .i64 c, .int .i64 xi, .int .i64 xn] 23:=Blk.newAt _ rfl rfl
  have ka:=(Kz w).alloc (.cells #[.int .i64 14, .int .i64 r, .int .i64 a, .int .i64 c, .int .i64 xi, .int .i64 xn] 23)
  have HB1:=Hz (B.same ka);have K1:=Hz ka;have SB1:=Hz hb1
  have SOW:=Hz (show ¬ h.Own w.heap.size from fun e=>by have:=B.own_lt e;omega)
  clear hb1 ka B
  go_enter Try.func33,Try.ntmps33
  go_wp2_with fail
  generalize w.alloc (.cells #[.int .i64 14, .int .i64 r, .int .i64 a, .int .i64 c, .int .i64 xi, .int .i64 xn] 23)=w1 at *
  generalize w.heap.size=sb at *
  have s0:=SB1.out.cell 0;have s1:=SB1.out.cell 1;have s2:=SB1.out.cell 2;have s3:=SB1.out.cell 3;have s4:=SB1.out.cell 4;have s5:=SB1.out.cell 5;have sl:=SB1.out.lt
  simp only [List.getElem?_cons_zero,List.getElem?_cons_succ] at s0 s1 s2 s3 s4 s5
  obtain ⟨b0,bl⟩:=HB1.out.pc
  obtain ⟨g,o,cap,hro,hown,q0,q3,ql,gl,fz,rc⟩:=HB1.out.roots
  have ra:=rc a ha;have rb:=rc c hc
  have hai:(a:Int)<12:=by omega
  have hci:(c:Int)<12:=by omega
  clear hro hown fz rc
  have ra:w1.cell? ⟨g,o+a,none⟩=some (.int .i64 (O.rtA a)):=ra
  have rb:w1.cell? ⟨g,o+c,none⟩=some (.int .i64 (O.rtA c)):=rb
  have heq:=HVC.out
  generalize O.rtA (a:Int)=va at *
  generalize O.rtA (c:Int)=vc at *
  have hee:(va == vc)=false:=by simpa using heq
  clear heq
  go_wp2_with fail
  refine wp_region_ro (.free 0 (.free 1 (.free 2 (.free 7 (.free 11 (.free 12 (.free 13 (.free 18 (.pure 3 (.free 4 (.free 5 (.pure 6 (.pure 8 (.free 9 (.pure 10 (.pure 14 (.free 15 (.free 16 (.pure 17 (.pure 19 (.free 20 (.pure 21 (.free 22 (.fin)))))))))))))))))))))))) [] (fun w'=>w'.cell? ⟨h.p,0,none⟩=some (.pointer (some ⟨h.a.p,0,none⟩))∧w'.cell? ⟨h.a.p,3,none⟩=some (.slice (some ⟨g,o,none⟩) 12 cap)∧w'.cell? ⟨g,o+a,none⟩=some (.int .i64 va)∧w'.cell? ⟨g,o+c,none⟩=some (.int .i64 vc)∧w'.cell? ⟨sb,2,none⟩=some (.int .i64 a)∧w'.cell? ⟨sb,3,none⟩=some (.int .i64 c)) (by kernel_rfl) (by kernel_rfl) ⟨b0,q3,ra,rb,s2,s3⟩ ?_
  iterate 23 first | (refine wpRO_free rfl rfl _ (fun w'=>by go_simp;exact Gives.mk _ _) (fun K hK=>?_);go_simp;refine hK _ ?_;clear hK K) | (refine wpRO_skipF rfl rfl (fun K hK=>?_);go_simp;refine hK _ ?_;clear hK K) | (refine wpRO_pure rfl rfl _ (fun w' hG=>by obtain ⟨b0,q3,ra,rb,s2,s3⟩:=hG;exact gives_agg2 rfl (by decide +kernel) rfl (by assumption) (by assumption)) (fun K hK=>?_);go_simp;refine hK _ ?_;clear hK K) | (refine wpRO_pure rfl rfl _ (fun w' hG=>by obtain ⟨b0,q3,ra,rb,s2,s3⟩:=hG;go_simp;exact Gives.mk _ _) (fun K hK=>?_);go_simp;refine hK _ ?_;clear hK K) | (refine wpRO_skip rfl rfl (fun K hK=>?_);go_simp;refine hK _ ?_;clear hK K)
  refine wpRO_fin ?_
  have kd1:=(Kz w1).drew
  have HB2:=Hz (HB1.out.same kd1);have K2:=Hz (K1.out.trans kd1);have SB2:=Hz (kd1.blk SB1.out (fun h=>h))
  clear kd1 s0 s1 s2 s3 s4 s5 sl HB1 K1 SB1 b0 bl q0 q3 ql gl ra rb
  generalize w1.drew=w2 at *
  have s1:=SB2.out.cell 1;have s2:=SB2.out.cell 2;have sl:=SB2.out.lt
  simp only [List.getElem?_cons_zero,List.getElem?_cons_succ] at s1 s2
  have HX:=Hz (show R64 (4*0) by unfold R64;omega)
  have NUM:=Hz (fun w=>HNumber_c 0 w (by unfold big;omega))
  go_wp2_with fail
  refine wp_region_ro (.free 0 (.free 1 (.free 3 (.pure 2 (.run 4 (.run 5 (.swi [] (.free 6 (.fin))))))))) [5,6] (fun w'=>w'.cell? ⟨sb,1,none⟩=some (.int .i64 r)) (by kernel_rfl) (by kernel_rfl) s1 ?_
  iterate 4 first | (refine wpRO_free rfl rfl _ (fun w'=>by go_simp;exact Gives.mk _ _) (fun K hK=>?_);go_simp;refine hK _ ?_;clear hK K) | (refine wpRO_skipF rfl rfl (fun K hK=>?_);go_simp;refine hK _ ?_;clear hK K) | (refine wpRO_pure rfl rfl _ (fun w' hG=>by obtain s1:=hG;exact gives_agg2 rfl (by decide +kernel) rfl (by assumption) (by assumption)) (fun K hK=>?_);go_simp;refine hK _ ?_;clear hK K) | (refine wpRO_pure rfl rfl _ (fun w' hG=>by obtain s1:=hG;go_simp;exact Gives.mk _ _) (fun K hK=>?_);go_simp;refine hK _ ?_;clear hK K) | (refine wpRO_skip rfl rfl (fun K hK=>?_);go_simp;refine hK _ ?_;clear hK K)
  refine wpRO_run rfl rfl (fun K hK=>?_);unfold gRun;go_simp
  refine (NUM.out _).mono ?_
  rintro e w7 ⟨rfl,hk7⟩
  have kk:=(Kz w2).drew.trans hk7
  have HB7:=Hz (HB2.out.same kk);have K7:=Hz (K2.out.trans kk);have SB7:=Hz (kk.blk SB2.out (fun h=>h))
  refine hK _ _ (fun _=>SB7.out.cell 1) ?_
  clear hK K hk7 kk HB2 K2 SB2 s1 s2 sl
  have s1:=SB7.out.cell 1;have sl:=SB7.out.lt
  simp only [List.getElem?_cons_zero,List.getElem?_cons_succ] at s1
  skip
  refine wpRO_chg rfl rfl rfl (fun K hK=>?_);unfold gRun;go_simp
  refine (HPut_c r (4*0) (0) HB7.out hr HX.out).mono ?_
  rintro e w8 ⟨rfl,ht⟩
  have TO:=Hz (HeapTo.from_same K7.out ht.to)
  refine hK _ _ ?_
  clear hK K ht s1 sl
  refine wpRO_swi (fun _=>True) trivial ?_
  iterate 1 first | (refine wpRO_free rfl rfl _ (fun w'=>by go_simp;exact Gives.mk _ _) (fun K hK=>?_);go_simp;refine hK _ ?_;clear hK K) | (refine wpRO_skipF rfl rfl (fun K hK=>?_);go_simp;refine hK _ ?_;clear hK K)
  refine wpRO_fin ?_
  go_wp2_with fail
  go_ret
  unfold HIntRet
  exact ⟨rfl,TO.out⟩
end
end
section
open Go.RowKit
section
variable {w w':World} {h:HH} {O O':Wo} {W:Wd} {φ:Int→Int}
theorem HDoBad_c (xk xr xa xb xi xn:Int) (B:HeapAt w h O) (hbad:¬ checkM ⟨xk,xr,xa,xb,xi,xn⟩=0) :
  Calls Try.prog 15 #[.pointer (some ⟨h.p,0,none⟩), .agg #[.int .i64 xk, .int .i64 xr, .int .i64 xa, .int .i64 xb, .int .i64 xi, .int .i64 xn]] w (HDoRet w h O ⟨xk,xr,xa,xb,xi,xn⟩):=by
 unfold HDoRet
 have HBD:=Hz hbad
 clear hbad
 have HB0:=Hz B
 have hb1:Blk (w.alloc (.cells #[.int .i64 xk, .int .i64 xr, .int .i64 xa, .int .i64 xb, .int .i64 xi, .int .i64 xn] 23)) w.heap.size [.int .i64 xk, .int .i64 xr, .int .i64 xa, .int .i64 xb, .int .i64 xi, .int .i64 xn] 23:=Blk.newAt _ rfl rfl
 have ka:=(Kz w).alloc (.cells #[.int .i64 xk, .int .i64 xr, .int .i64 xa, .int .i64 xb, .int .i64 xi, .int .i64 xn] 23)
 have s0:=hb1.cell 0;have s1:=hb1.cell 1;have s2:=hb1.cell 2;have s3:=hb1.cell 3;have s4:=hb1.cell 4;have s5:=hb1.cell 5;have sl:=hb1.lt
 simp only [List.getElem?_cons_zero,List.getElem?_cons_succ] at s0 s1 s2 s3 s4 s5
 have HSF:=Hz (fun w=>Check_c ⟨xk,xr,xa,xb,xi,xn⟩ w)
 obtain ⟨c,hc⟩:∃ c,checkM ⟨xk,xr,xa,xb,xi,xn⟩=c:=⟨_,rfl⟩
 rw [hc] at HSF
 have HC:=Hz hc
 have HB:=Hz hb1;have KA:=Hz ka
 clear hb1 hc ka B
 go_enter Try.func15,Try.ntmps15
 go_wp2_with (refine wpList_agg rfl 23 (.tmp 3) rfl [.int .i64 xk, .int .i64 xr, .int .i64 xa, .int .i64 xb, .int .i64 xi, .int .i64 xn] (by kernel_rfl) w.heap.size 0 rfl (rangeAt_cons s0 (rangeAt_cons s1 (rangeAt_cons s2 (rangeAt_cons s3 (rangeAt_cons s4 (rangeAt_cons s5 rangeAt_nil)))))) ?_)
 refine (HSF.out _).mono ?_
 rintro e w1 ⟨rfl,hk⟩
 have HB1:=Hz ((HB0.out.same KA.out).same hk)
 have K1:=Hz (KA.out.trans hk)
 have SB1:=Hz (hk.blk HB.out (fun h=>h))
 have SFR:=Hz (show ¬ h.Own w.heap.size from fun e=>by have:=HB0.out.own_lt e;omega)
 clear hk s0 s1 s2 s3 s4 s5 sl HSF KA HB
 generalize w.heap.size=sb at *
 have s0:=SB1.out.cell 0;have s1:=SB1.out.cell 1;have s2:=SB1.out.cell 2;have s3:=SB1.out.cell 3;have s4:=SB1.out.cell 4;have s5:=SB1.out.cell 5;have sl:=SB1.out.lt
 simp only [List.getElem?_cons_zero,List.getElem?_cons_succ] at s0 s1 s2 s3 s4 s5
 by_cases h0:¬ c=0
 ·have HE:=Hz (show O.do ⟨xk,xr,xa,xb,xi,xn⟩=(c,O) by unfold Wo.do;rw [HC.out,if_neg h0])
  have hd:(c != 0)=true:=by simpa using h0
  clear h0
  go_wp2_with fail
  go_ret
  exact ⟨by rw [HE.out];rfl,by rw [HE.out];exact HeapTo.same HB0.out K1.out⟩
 have h0:c=0:=Classical.not_not.1 h0
 subst h0
 exact (HBD.out HC.out).elim
theorem HDoNil_c (xr xa xb xi xn:Int) (B:HeapAt w h O) :
  Calls Try.prog 15 #[.pointer (some ⟨h.p,0,none⟩), .agg #[.int .i64 2, .int .i64 xr, .int .i64 xa, .int .i64 xb, .int .i64 xi, .int .i64 xn]] w (HDoRet w h O ⟨2,xr,xa,xb,xi,xn⟩):=by
 unfold HDoRet
 have HB0:=Hz B
 have hb1:Blk (w.alloc (.cells #[.int .i64 2, .int .i64 xr, .int .i64 xa, .int .i64 xb, .int .i64 xi, .int .i64 xn] 23)) w.heap.size [.int .i64 2, .int .i64 xr, .int .i64 xa, .int .i64 xb, .int .i64 xi, .int .i64 xn] 23:=Blk.newAt _ rfl rfl
 have ka:=(Kz w).alloc (.cells #[.int .i64 2, .int .i64 xr, .int .i64 xa, .int .i64 xb, .int .i64 xi, .int .i64 xn] 23)
 have s0:=hb1.cell 0;have s1:=hb1.cell 1;have s2:=hb1.cell 2;have s3:=hb1.cell 3;have s4:=hb1.cell 4;have s5:=hb1.cell 5;have sl:=hb1.lt
 simp only [List.getElem?_cons_zero,List.getElem?_cons_succ] at s0 s1 s2 s3 s4 s5
 have HSF:=Hz (fun w=>Check_c ⟨2,xr,xa,xb,xi,xn⟩ w)
 obtain ⟨c,hc⟩:∃ c,checkM ⟨2,xr,xa,xb,xi,xn⟩=c:=⟨_,rfl⟩
 rw [hc] at HSF
 have HC:=Hz hc
 have HB:=Hz hb1;have KA:=Hz ka
 clear hb1 hc ka B
 go_enter Try.func15,Try.ntmps15
 go_wp2_with (refine wpList_agg rfl 23 (.tmp 3) rfl [.int .i64 2, .int .i64 xr, .int .i64 xa, .int .i64 xb, .int .i64 xi, .int .i64 xn] (by kernel_rfl) w.heap.size 0 rfl (rangeAt_cons s0 (rangeAt_cons s1 (rangeAt_cons s2 (rangeAt_cons s3 (rangeAt_cons s4 (rangeAt_cons s5 rangeAt_nil)))))) ?_)
 refine (HSF.out _).mono ?_
 rintro e w1 ⟨rfl,hk⟩
 have HB1:=Hz ((HB0.out.same KA.out).same hk)
 have K1:=Hz (KA.out.trans hk)
 have SB1:=Hz (hk.blk HB.out (fun h=>h))
 have SFR:=Hz (show ¬ h.Own w.heap.size from fun e=>by have:=HB0.out.own_lt e;omega)
 clear hk s0 s1 s2 s3 s4 s5 sl HSF KA HB
 generalize w.heap.size=sb at *
 have s0:=SB1.out.cell 0;have s1:=SB1.out.cell 1;have s2:=SB1.out.cell 2;have s3:=SB1.out.cell 3;have s4:=SB1.out.cell 4;have s5:=SB1.out.cell 5;have sl:=SB1.out.lt
 simp only [List.getElem?_cons_zero,List.getElem?_cons_succ] at s0 s1 s2 s3 s4 s5
 by_cases h0:¬ c=0
 ·have HE:=Hz (show O.do ⟨2,xr,xa,xb,xi,xn⟩=(c,O) by unfold Wo.do;rw [HC.out,if_neg h0])
  have hd:(c != 0)=true:=by simpa using h0
  clear h0
  go_wp2_with fail
  go_ret
  exact ⟨by rw [HE.out];rfl,by rw [HE.out];exact HeapTo.same HB0.out K1.out⟩
 have h0:c=0:=Classical.not_not.1 h0
 subst h0
 have hr:0≤xr∧xr<12:=(rootOk_iff _).1 ((checkM_use HC.out).2.1 (show usesM 2%2=1 by decide))
 obtain ⟨r,rfl⟩:∃ r:Nat,xr=r:=⟨xr.toNat,by omega⟩
 have hr12:r<12:=by omega
 clear hr
 have HE:=Hz (show O.do ⟨2,r,xa,xb,xi,xn⟩=O.putC r (2,0) by unfold Wo.do;rw [if_pos HC.out];rfl)
 go_wp2_with fail
 refine wp_region_ro (.free 0 (.free 1 (.pure 2 (.run 3 (.run 4 (.swi [] (.free 5 (.fin)))))))) [4,5] (fun w'=>w'.cell? ⟨sb,1,none⟩=some (.int .i64 r)) (by kernel_rfl) (by kernel_rfl) s1 ?_
 iterate 3 first | (refine wpRO_free rfl rfl _ (fun w'=>by go_simp;exact Gives.mk _ _) (fun K hK=>?_);go_simp;refine hK _ ?_;clear hK K) | (refine wpRO_skipF rfl rfl (fun K hK=>?_);go_simp;refine hK _ ?_;clear hK K) | (refine wpRO_pure rfl rfl _ (fun w' hG=>by obtain s1:=hG;exact gives_agg2 rfl (by decide +kernel) rfl (by assumption) (by assumption)) (fun K hK=>?_);go_simp;refine hK _ ?_;clear hK K) | (refine wpRO_pure rfl rfl _ (fun w' hG=>by obtain s1:=hG;go_simp;exact Gives.mk _ _) (fun K hK=>?_);go_simp;refine hK _ ?_;clear hK K) | (refine wpRO_skip rfl rfl (fun K hK=>?_);go_simp;refine hK _ ?_;clear hK K)
 refine wpRO_run rfl rfl (fun K hK=>?_);unfold gRun;go_simp
 refine (Nil_c _).mono ?_
 rintro e w7 ⟨rfl,rfl⟩
 refine hK _ _ (fun hg=>hg) ?_
 clear hK K
 skip
 refine wpRO_chg rfl rfl rfl (fun K hK=>?_);unfold gRun;go_simp
 have hk1:=(Kz w1).drew
 refine (HPut_c r 2 0 (HB1.out.same hk1) hr12 (by unfold R64;omega)).mono ?_
 rintro e w8 ⟨rfl,ht⟩
 have TO:=Hz (HeapTo.from_same (K1.out.trans hk1) ht.to)
 refine hK _ _ ?_
 clear hK K ht hk1 s0 s1 s2 s3 s4 s5 sl
 refine wpRO_swi (fun _=>True) trivial ?_
 iterate 1 first | (refine wpRO_free rfl rfl _ (fun w'=>by go_simp;exact Gives.mk _ _) (fun K hK=>?_);go_simp;refine hK _ ?_;clear hK K) | (refine wpRO_skipF rfl rfl (fun K hK=>?_);go_simp;refine hK _ ?_;clear hK K)
 refine wpRO_fin ?_
 go_wp2_with fail
 go_ret
 exact ⟨by rw [HE.out];rfl,by rw [HE.out];exact TO.out⟩
theorem HDoMove_c (xr xa xb xi xn:Int) (B:HeapAt w h O) :
  Calls Try.prog 15 #[.pointer (some ⟨h.p,0,none⟩), .agg #[.int .i64 3, .int .i64 xr, .int .i64 xa, .int .i64 xb, .int .i64 xi, .int .i64 xn]] w (HDoRet w h O ⟨3,xr,xa,xb,xi,xn⟩):=by
 unfold HDoRet
 have HB0:=Hz B
 have hb1:Blk (w.alloc (.cells #[.int .i64 3, .int .i64 xr, .int .i64 xa, .int .i64 xb, .int .i64 xi, .int .i64 xn] 23)) w.heap.size [.int .i64 3, .int .i64 xr, .int .i64 xa, .int .i64 xb, .int .i64 xi, .int .i64 xn] 23:=Blk.newAt _ rfl rfl
 have ka:=(Kz w).alloc (.cells #[.int .i64 3, .int .i64 xr, .int .i64 xa, .int .i64 xb, .int .i64 xi, .int .i64 xn] 23)
 have s0:=hb1.cell 0;have s1:=hb1.cell 1;have s2:=hb1.cell 2;have s3:=hb1.cell 3;have s4:=hb1.cell 4;have s5:=hb1.cell 5;have sl:=hb1.lt
 simp only [List.getElem?_cons_zero,List.getElem?_cons_succ] at s0 s1 s2 s3 s4 s5
 have HSF:=Hz (fun w=>Check_c ⟨3,xr,xa,xb,xi,xn⟩ w)
 obtain ⟨c,hc⟩:∃ c,checkM ⟨3,xr,xa,xb,xi,xn⟩=c:=⟨_,rfl⟩
 rw [hc] at HSF
 have HC:=Hz hc
 have HB:=Hz hb1;have KA:=Hz ka
 clear hb1 hc ka B
 go_enter Try.func15,Try.ntmps15
 go_wp2_with (refine wpList_agg rfl 23 (.tmp 3) rfl [.int .i64 3, .int .i64 xr, .int .i64 xa, .int .i64 xb, .int .i64 xi, .int .i64 xn] (by kernel_rfl) w.heap.size 0 rfl (rangeAt_cons s0 (rangeAt_cons s1 (rangeAt_cons s2 (rangeAt_cons s3 (rangeAt_cons s4 (rangeAt_cons s5 rangeAt_nil)))))) ?_)
 refine (HSF.out _).mono ?_
 rintro e w1 ⟨rfl,hk⟩
 have HB1:=Hz ((HB0.out.same KA.out).same hk)
 have K1:=Hz (KA.out.trans hk)
 have SB1:=Hz (hk.blk HB.out (fun h=>h))
 have SFR:=Hz (show ¬ h.Own w.heap.size from fun e=>by have:=HB0.out.own_lt e;omega)
 clear hk s0 s1 s2 s3 s4 s5 sl HSF KA HB
 generalize w.heap.size=sb at *
 have s0:=SB1.out.cell 0;have s1:=SB1.out.cell 1;have s2:=SB1.out.cell 2;have s3:=SB1.out.cell 3;have s4:=SB1.out.cell 4;have s5:=SB1.out.cell 5;have sl:=SB1.out.lt
 simp only [List.getElem?_cons_zero,List.getElem?_cons_succ] at s0 s1 s2 s3 s4 s5
 by_cases h0:¬ c=0
 ·have HE:=Hz (show O.do ⟨3,xr,xa,xb,xi,xn⟩=(c,O) by unfold Wo.do;rw [HC.out,if_neg h0])
  have hd:(c != 0)=true:=by simpa using h0
  clear h0
  go_wp2_with fail
  go_ret
  exact ⟨by rw [HE.out];rfl,by rw [HE.out];exact HeapTo.same HB0.out K1.out⟩
 have h0:c=0:=Classical.not_not.1 h0
 subst h0
 have hr:0≤xr∧xr<12:=(rootOk_iff _).1 ((checkM_use HC.out).2.1 (show usesM 3%2=1 by decide))
 obtain ⟨r,rfl⟩:∃ r:Nat,xr=r:=⟨xr.toNat,by omega⟩
 have hr12:r<12:=by omega
 clear hr
 have ha:0≤xa∧xa<12:=(rootOk_iff _).1 ((checkM_use HC.out).2.2.1 (show usesM 3/2%2=1 by decide))
 obtain ⟨a,rfl⟩:∃ a:Nat,xa=a:=⟨xa.toNat,by omega⟩
 have ha12:a<12:=by omega
 clear ha
 have HE:=Hz (show O.do ⟨3,r,a,xb,xi,xn⟩=O.putC r (O.rtA a,0) by unfold Wo.do;rw [if_pos HC.out];rfl)
 obtain ⟨b0,bl⟩:=HB1.out.pc
 obtain ⟨g,o,cap,hro,hown,q0,q3,ql,gl,fz,rc⟩:=HB1.out.roots
 have ra:=rc a ha12
 have ra:w1.cell? ⟨g,o+a,none⟩=some (.int .i64 (O.rtA a)):=ra
 have ha12i:(a:Int)<12:=by omega
 clear hro hown fz rc
 have HVR:=Hz (rtA_R64 HB1.out.H.ok (a:Int))
 generalize O.rtA (a:Int)=va at *
 go_wp2_with fail
 refine wp_region_ro (.free 0 (.free 1 (.free 3 (.free 4 (.free 5 (.free 10 (.pure 2 (.pure 6 (.free 7 (.free 8 (.pure 9 (.pure 11 (.free 12 (.pure 13 (.run 14 (.swi [] (.free 15 (.fin)))))))))))))))))) [14,15] (fun w'=>w'.cell? ⟨h.p,0,none⟩=some (.pointer (some ⟨h.a.p,0,none⟩))∧w'.cell? ⟨h.a.p,3,none⟩=some (.slice (some ⟨g,o,none⟩) 12 cap)∧w'.cell? ⟨g,o+a,none⟩=some (.int .i64 va)∧w'.cell? ⟨sb,1,none⟩=some (.int .i64 r)∧w'.cell? ⟨sb,2,none⟩=some (.int .i64 a)) (by kernel_rfl) (by kernel_rfl) ⟨b0,q3,ra,s1,s2⟩ ?_
 iterate 14 first | (refine wpRO_free rfl rfl _ (fun w'=>by go_simp;exact Gives.mk _ _) (fun K hK=>?_);go_simp;refine hK _ ?_;clear hK K) | (refine wpRO_skipF rfl rfl (fun K hK=>?_);go_simp;refine hK _ ?_;clear hK K) | (refine wpRO_pure rfl rfl _ (fun w' hG=>by obtain ⟨b0,q3,ra,s1,s2⟩:=hG;exact gives_agg2 rfl (by decide +kernel) rfl (by assumption) (by assumption)) (fun K hK=>?_);go_simp;refine hK _ ?_;clear hK K) | (refine wpRO_pure rfl rfl _ (fun w' hG=>by obtain ⟨b0,q3,ra,s1,s2⟩:=hG;go_simp;exact Gives.mk _ _) (fun K hK=>?_);go_simp;refine hK _ ?_;clear hK K) | (refine wpRO_skip rfl rfl (fun K hK=>?_);go_simp;refine hK _ ?_;clear hK K)
 refine wpRO_chg rfl rfl rfl (fun K hK=>?_);unfold gRun;go_simp
 have hk1:=(Kz w1).drew
 refine (HPut_c r va 0 (HB1.out.same hk1) hr12 HVR.out).mono ?_
 rintro e w8 ⟨rfl,ht⟩
 have TO:=Hz (HeapTo.from_same (K1.out.trans hk1) ht.to)
 refine hK _ _ ?_
 clear hK K ht hk1 s0 s1 s2 s3 s4 s5 sl b0 bl q0 q3 ql gl ra
 refine wpRO_swi (fun _=>True) trivial ?_
 iterate 1 first | (refine wpRO_free rfl rfl _ (fun w'=>by go_simp;exact Gives.mk _ _) (fun K hK=>?_);go_simp;refine hK _ ?_;clear hK K) | (refine wpRO_skipF rfl rfl (fun K hK=>?_);go_simp;refine hK _ ?_;clear hK K)
 refine wpRO_fin ?_
 go_wp2_with fail
 go_ret
 exact ⟨by rw [HE.out];rfl,by rw [HE.out];exact TO.out⟩
theorem HDoVec_c (xr xa xb xi xn:Int) (R:Rep O W φ) (B:HeapAt w h O) :
  Calls Try.prog 15 #[.pointer (some ⟨h.p,0,none⟩), .agg #[.int .i64 5, .int .i64 xr, .int .i64 xa, .int .i64 xb, .int .i64 xi, .int .i64 xn]] w (HDoRet w h O ⟨5,xr,xa,xb,xi,xn⟩):=by
 unfold HDoRet
 have HRR:=Hz R
 clear R
 have HB0:=Hz B
 have hb1:Blk (w.alloc (.cells #[.int .i64 5, .int .i64 xr, .int .i64 xa, .int .i64 xb, .int .i64 xi, .int .i64 xn] 23)) w.heap.size [.int .i64 5, .int .i64 xr, .int .i64 xa, .int .i64 xb, .int .i64 xi, .int .i64 xn] 23:=Blk.newAt _ rfl rfl
 have ka:=(Kz w).alloc (.cells #[.int .i64 5, .int .i64 xr, .int .i64 xa, .int .i64 xb, .int .i64 xi, .int .i64 xn] 23)
 have s0:=hb1.cell 0;have s1:=hb1.cell 1;have s2:=hb1.cell 2;have s3:=hb1.cell 3;have s4:=hb1.cell 4;have s5:=hb1.cell 5;have sl:=hb1.lt
 simp only [List.getElem?_cons_zero,List.getElem?_cons_succ] at s0 s1 s2 s3 s4 s5
 have HSF:=Hz (fun w=>Check_c ⟨5,xr,xa,xb,xi,xn⟩ w)
 obtain ⟨c,hc⟩:∃ c,checkM ⟨5,xr,xa,xb,xi,xn⟩=c:=⟨_,rfl⟩
 rw [hc] at HSF
 have HC:=Hz hc
 have HB:=Hz hb1;have KA:=Hz ka
 clear hb1 hc ka B
 go_enter Try.func15,Try.ntmps15
 go_wp2_with (refine wpList_agg rfl 23 (.tmp 3) rfl [.int .i64 5, .int .i64 xr, .int .i64 xa, .int .i64 xb, .int .i64 xi, .int .i64 xn] (by kernel_rfl) w.heap.size 0 rfl (rangeAt_cons s0 (rangeAt_cons s1 (rangeAt_cons s2 (rangeAt_cons s3 (rangeAt_cons s4 (rangeAt_cons s5 rangeAt_nil)))))) ?_)
 refine (HSF.out _).mono ?_
 rintro e w1 ⟨rfl,hk⟩
 have HB1:=Hz ((HB0.out.same KA.out).same hk)
 have K1:=Hz (KA.out.trans hk)
 have SB1:=Hz (hk.blk HB.out (fun h=>h))
 have SFR:=Hz (show ¬ h.Own w.heap.size from fun e=>by have:=HB0.out.own_lt e;omega)
 clear hk s0 s1 s2 s3 s4 s5 sl HSF KA HB
 generalize w.heap.size=sb at *
 have s0:=SB1.out.cell 0;have s1:=SB1.out.cell 1;have s2:=SB1.out.cell 2;have s3:=SB1.out.cell 3;have s4:=SB1.out.cell 4;have s5:=SB1.out.cell 5;have sl:=SB1.out.lt
 simp only [List.getElem?_cons_zero,List.getElem?_cons_succ] at s0 s1 s2 s3 s4 s5
 by_cases h0:¬ c=0
 ·have HE:=Hz (show O.do ⟨5,xr,xa,xb,xi,xn⟩=(c,O) by unfold Wo.do;rw [HC.out,if_neg h0])
  have hd:(c != 0)=true:=by simpa using h0
  clear h0
  go_wp2_with fail
  go_ret
  exact ⟨by rw [HE.out];rfl,by rw [HE.out];exact HeapTo.same HB0.out K1.out⟩
 have h0:c=0:=Classical.not_not.1 h0
 subst h0
 have hr:0≤xr∧xr<12:=(rootOk_iff _).1 ((checkM_use HC.out).2.1 (show usesM 5%2=1 by decide))
 obtain ⟨r,rfl⟩:∃ r:Nat,xr=r:=⟨xr.toNat,by omega⟩
 have hr12:r<12:=by omega
 clear hr
 have ha:0≤xa∧xa<12:=(rootOk_iff _).1 ((checkM_use HC.out).2.2.1 (show usesM 5/2%2=1 by decide))
 obtain ⟨a,rfl⟩:∃ a:Nat,xa=a:=⟨xa.toNat,by omega⟩
 have ha12:a<12:=by omega
 clear ha
 have hn:0≤xn∧xn≤12:=(checkM_use HC.out).2.2.2.2.2 rfl
 obtain ⟨n,rfl⟩:∃ n:Nat,xn=n:=⟨xn.toNat,by omega⟩
 have HE:=Hz (show O.do ⟨5,r,a,xb,xi,n⟩=O.newT r 2 (List.replicate n (a:Int)) by unfold Wo.do;rw [if_pos HC.out];rfl)
 have HCL:=Hz (HVector_c r a n xb xi HB1.out hr12 ha12 (by omega) (RoomOk.rep HRR.out (by omega)))
 unfold HIntRet at HCL
 clear hn
 go_wp2_with (refine wpList_agg rfl 23 (.tmp 3) rfl [.int .i64 5, .int .i64 r, .int .i64 a, .int .i64 xb, .int .i64 xi, .int .i64 n] (by kernel_rfl) sb 0 rfl (rangeAt_cons s0 (rangeAt_cons s1 (rangeAt_cons s2 (rangeAt_cons s3 (rangeAt_cons s4 (rangeAt_cons s5 rangeAt_nil)))))) ?_)
 refine HCL.out.mono ?_
 rintro e w3 ⟨rfl,ht⟩
 have TO:=Hz (HeapTo.from_same K1.out ht)
 clear ht s0 s1 s2 s3 s4 s5 sl HCL
 go_wp2_with fail
 go_ret
 exact ⟨by rw [HE.out];rfl,by rw [HE.out];exact TO.out⟩
theorem HDoWeak_c (xr xa xb xi xn:Int) (R:Rep O W φ) (B:HeapAt w h O) :
  Calls Try.prog 15 #[.pointer (some ⟨h.p,0,none⟩), .agg #[.int .i64 6, .int .i64 xr, .int .i64 xa, .int .i64 xb, .int .i64 xi, .int .i64 xn]] w (HDoRet w h O ⟨6,xr,xa,xb,xi,xn⟩):=by
 unfold HDoRet
 have HRM:=Hz (show RoomOk h O 3 from RoomOk.rep R (by omega))
 clear R
 have HB0:=Hz B
 have hb1:Blk (w.alloc (.cells #[.int .i64 6, .int .i64 xr, .int .i64 xa, .int .i64 xb, .int .i64 xi, .int .i64 xn] 23)) w.heap.size [.int .i64 6, .int .i64 xr, .int .i64 xa, .int .i64 xb, .int .i64 xi, .int .i64 xn] 23:=Blk.newAt _ rfl rfl
 have ka:=(Kz w).alloc (.cells #[.int .i64 6, .int .i64 xr, .int .i64 xa, .int .i64 xb, .int .i64 xi, .int .i64 xn] 23)
 have s0:=hb1.cell 0;have s1:=hb1.cell 1;have s2:=hb1.cell 2;have s3:=hb1.cell 3;have s4:=hb1.cell 4;have s5:=hb1.cell 5;have sl:=hb1.lt
 simp only [List.getElem?_cons_zero,List.getElem?_cons_succ] at s0 s1 s2 s3 s4 s5
 have HSF:=Hz (fun w=>Check_c ⟨6,xr,xa,xb,xi,xn⟩ w)
 obtain ⟨c,hc⟩:∃ c,checkM ⟨6,xr,xa,xb,xi,xn⟩=c:=⟨_,rfl⟩
 rw [hc] at HSF
 have HC:=Hz hc
 have HB:=Hz hb1;have KA:=Hz ka
 clear hb1 hc ka B
 go_enter Try.func15,Try.ntmps15
 go_wp2_with (refine wpList_agg rfl 23 (.tmp 3) rfl [.int .i64 6, .int .i64 xr, .int .i64 xa, .int .i64 xb, .int .i64 xi, .int .i64 xn] (by kernel_rfl) w.heap.size 0 rfl (rangeAt_cons s0 (rangeAt_cons s1 (rangeAt_cons s2 (rangeAt_cons s3 (rangeAt_cons s4 (rangeAt_cons s5 rangeAt_nil)))))) ?_)
 refine (HSF.out _).mono ?_
 rintro e w1 ⟨rfl,hk⟩
 have HB1:=Hz ((HB0.out.same KA.out).same hk)
 have K1:=Hz (KA.out.trans hk)
 have SB1:=Hz (hk.blk HB.out (fun h=>h))
 have SFR:=Hz (show ¬ h.Own w.heap.size from fun e=>by have:=HB0.out.own_lt e;omega)
 clear hk s0 s1 s2 s3 s4 s5 sl HSF KA HB
 generalize w.heap.size=sb at *
 have s0:=SB1.out.cell 0;have s1:=SB1.out.cell 1;have s2:=SB1.out.cell 2;have s3:=SB1.out.cell 3;have s4:=SB1.out.cell 4;have s5:=SB1.out.cell 5;have sl:=SB1.out.lt
 simp only [List.getElem?_cons_zero,List.getElem?_cons_succ] at s0 s1 s2 s3 s4 s5
 by_cases h0:¬ c=0
 ·have HE:=Hz (show O.do ⟨6,xr,xa,xb,xi,xn⟩=(c,O) by unfold Wo.do;rw [HC.out,if_neg h0])
  have hd:(c != 0)=true:=by simpa using h0
  clear h0
  go_wp2_with fail
  go_ret
  exact ⟨by rw [HE.out];rfl,by rw [HE.out];exact HeapTo.same HB0.out K1.out⟩
 have h0:c=0:=Classical.not_not.1 h0
 subst h0
 have hr:0≤xr∧xr<12:=(rootOk_iff _).1 ((checkM_use HC.out).2.1 (show usesM 6%2=1 by decide))
 obtain ⟨r,rfl⟩:∃ r:Nat,xr=r:=⟨xr.toNat,by omega⟩
 have hr12:r<12:=by omega
 clear hr
 have ha:0≤xa∧xa<12:=(rootOk_iff _).1 ((checkM_use HC.out).2.2.1 (show usesM 6/2%2=1 by decide))
 obtain ⟨a,rfl⟩:∃ a:Nat,xa=a:=⟨xa.toNat,by omega⟩
 have ha12:a<12:=by omega
 clear ha
 have hb:0≤xb∧xb<12:=(rootOk_iff _).1 ((checkM_use HC.out).2.2.2.1 (show usesM 6/4%2=1 by decide))
 obtain ⟨b,rfl⟩:∃ b:Nat,xb=b:=⟨xb.toNat,by omega⟩
 have hb12:b<12:=by omega
 clear hb
 have HE:=Hz (show O.do ⟨6,r,a,b,xi,xn⟩=O.newT r 3 ([a,b].map fun (k:Nat)=>(k:Int)) by unfold Wo.do;rw [if_pos HC.out];rfl)
 have ka:=(Kz w1).alloc (.cells #[.int .i64 a, .int .i64 b] 3)
 have hbl:Blk (w1.alloc (.cells #[.int .i64 a, .int .i64 b] 3)) w1.heap.size [.int .i64 a, .int .i64 b] 3:=Blk.newAt _ rfl rfl
 have hmk:=HMake_c r 3 [a,b] (some ⟨w1.heap.size,0,none⟩) 2 (HB1.out.same ka) hr12 (by intro k hk;simp at hk;omega) (show fitsW 3 2=true by decide) (Rd.blk hbl 0 _ rfl) (fun ad e hb hn=>by cases e;have:=HB1.out.own_lt hn;simp at this) (HRM.out.1 _ (HB1.out.same ka)) HRM.out.2
 have HMK:=Hz hmk
 have HKA:=Hz ka
 clear ka hbl hmk
 go_wp2_with fail
 refine HMK.out.mono ?_
 rintro e w3 ⟨rfl,ht⟩
 have TO:=Hz (HeapTo.from_same (K1.out.trans HKA.out) ht)
 clear ht s0 s1 s2 s3 s4 s5 sl
 go_wp2_with fail
 go_ret
 exact ⟨by rw [HE.out];rfl,by rw [HE.out];exact TO.out⟩
theorem HDoEphem_c (xr xa xb xi xn:Int) (R:Rep O W φ) (B:HeapAt w h O) :
  Calls Try.prog 15 #[.pointer (some ⟨h.p,0,none⟩), .agg #[.int .i64 7, .int .i64 xr, .int .i64 xa, .int .i64 xb, .int .i64 xi, .int .i64 xn]] w (HDoRet w h O ⟨7,xr,xa,xb,xi,xn⟩):=by
 unfold HDoRet
 have HRM:=Hz (show RoomOk h O 3 from RoomOk.rep R (by omega))
 clear R
 have HB0:=Hz B
 have hb1:Blk (w.alloc (.cells #[.int .i64 7, .int .i64 xr, .int .i64 xa, .int .i64 xb, .int .i64 xi, .int .i64 xn] 23)) w.heap.size [.int .i64 7, .int .i64 xr, .int .i64 xa, .int .i64 xb, .int .i64 xi, .int .i64 xn] 23:=Blk.newAt _ rfl rfl
 have ka:=(Kz w).alloc (.cells #[.int .i64 7, .int .i64 xr, .int .i64 xa, .int .i64 xb, .int .i64 xi, .int .i64 xn] 23)
 have s0:=hb1.cell 0;have s1:=hb1.cell 1;have s2:=hb1.cell 2;have s3:=hb1.cell 3;have s4:=hb1.cell 4;have s5:=hb1.cell 5;have sl:=hb1.lt
 simp only [List.getElem?_cons_zero,List.getElem?_cons_succ] at s0 s1 s2 s3 s4 s5
 have HSF:=Hz (fun w=>Check_c ⟨7,xr,xa,xb,xi,xn⟩ w)
 obtain ⟨c,hc⟩:∃ c,checkM ⟨7,xr,xa,xb,xi,xn⟩=c:=⟨_,rfl⟩
 rw [hc] at HSF
 have HC:=Hz hc
 have HB:=Hz hb1;have KA:=Hz ka
 clear hb1 hc ka B
 go_enter Try.func15,Try.ntmps15
 go_wp2_with (refine wpList_agg rfl 23 (.tmp 3) rfl [.int .i64 7, .int .i64 xr, .int .i64 xa, .int .i64 xb, .int .i64 xi, .int .i64 xn] (by kernel_rfl) w.heap.size 0 rfl (rangeAt_cons s0 (rangeAt_cons s1 (rangeAt_cons s2 (rangeAt_cons s3 (rangeAt_cons s4 (rangeAt_cons s5 rangeAt_nil)))))) ?_)
 refine (HSF.out _).mono ?_
 rintro e w1 ⟨rfl,hk⟩
 have HB1:=Hz ((HB0.out.same KA.out).same hk)
 have K1:=Hz (KA.out.trans hk)
 have SB1:=Hz (hk.blk HB.out (fun h=>h))
 have SFR:=Hz (show ¬ h.Own w.heap.size from fun e=>by have:=HB0.out.own_lt e;omega)
 clear hk s0 s1 s2 s3 s4 s5 sl HSF KA HB
 generalize w.heap.size=sb at *
 have s0:=SB1.out.cell 0;have s1:=SB1.out.cell 1;have s2:=SB1.out.cell 2;have s3:=SB1.out.cell 3;have s4:=SB1.out.cell 4;have s5:=SB1.out.cell 5;have sl:=SB1.out.lt
 simp only [List.getElem?_cons_zero,List.getElem?_cons_succ] at s0 s1 s2 s3 s4 s5
 by_cases h0:¬ c=0
 ·have HE:=Hz (show O.do ⟨7,xr,xa,xb,xi,xn⟩=(c,O) by unfold Wo.do;rw [HC.out,if_neg h0])
  have hd:(c != 0)=true:=by simpa using h0
  clear h0
  go_wp2_with fail
  go_ret
  exact ⟨by rw [HE.out];rfl,by rw [HE.out];exact HeapTo.same HB0.out K1.out⟩
 have h0:c=0:=Classical.not_not.1 h0
 subst h0
 have hr:0≤xr∧xr<12:=(rootOk_iff _).1 ((checkM_use HC.out).2.1 (show usesM 7%2=1 by decide))
 obtain ⟨r,rfl⟩:∃ r:Nat,xr=r:=⟨xr.toNat,by omega⟩
 have hr12:r<12:=by omega
 clear hr
 have ha:0≤xa∧xa<12:=(rootOk_iff _).1 ((checkM_use HC.out).2.2.1 (show usesM 7/2%2=1 by decide))
 obtain ⟨a,rfl⟩:∃ a:Nat,xa=a:=⟨xa.toNat,by omega⟩
 have ha12:a<12:=by omega
 clear ha
 have hb:0≤xb∧xb<12:=(rootOk_iff _).1 ((checkM_use HC.out).2.2.2.1 (show usesM 7/4%2=1 by decide))
 obtain ⟨b,rfl⟩:∃ b:Nat,xb=b:=⟨xb.toNat,by omega⟩
 have hb12:b<12:=by omega
 clear hb
 have HE:=Hz (show O.do ⟨7,r,a,b,xi,xn⟩=O.newT r 4 ([a,b].map fun (k:Nat)=>(k:Int)) by unfold Wo.do;rw [if_pos HC.out];rfl)
 have ka:=(Kz w1).alloc (.cells #[.int .i64 a, .int .i64 b] 3)
 have hbl:Blk (w1.alloc (.cells #[.int .i64 a, .int .i64 b] 3)) w1.heap.size [.int .i64 a, .int .i64 b] 3:=Blk.newAt _ rfl rfl
 have hmk:=HMake_c r 4 [a,b] (some ⟨w1.heap.size,0,none⟩) 2 (HB1.out.same ka) hr12 (by intro k hk;simp at hk;omega) (show fitsW 4 2=true by decide) (Rd.blk hbl 0 _ rfl) (fun ad e hb hn=>by cases e;have:=HB1.out.own_lt hn;simp at this) (HRM.out.1 _ (HB1.out.same ka)) HRM.out.2
 have HMK:=Hz hmk
 have HKA:=Hz ka
 clear ka hbl hmk
 go_wp2_with fail
 refine HMK.out.mono ?_
 rintro e w3 ⟨rfl,ht⟩
 have TO:=Hz (HeapTo.from_same (K1.out.trans HKA.out) ht)
 clear ht s0 s1 s2 s3 s4 s5 sl
 go_wp2_with fail
 go_ret
 exact ⟨by rw [HE.out];rfl,by rw [HE.out];exact TO.out⟩
theorem HDoGuard_c (xr xa xb xi xn:Int) (R:Rep O W φ) (B:HeapAt w h O) :
  Calls Try.prog 15 #[.pointer (some ⟨h.p,0,none⟩), .agg #[.int .i64 8, .int .i64 xr, .int .i64 xa, .int .i64 xb, .int .i64 xi, .int .i64 xn]] w (HDoRet w h O ⟨8,xr,xa,xb,xi,xn⟩):=by
 unfold HDoRet
 have HRM:=Hz (show RoomOk h O 1 from RoomOk.rep R (by omega))
 clear R
 have HB0:=Hz B
 have hb1:Blk (w.alloc (.cells #[.int .i64 8, .int .i64 xr, .int .i64 xa, .int .i64 xb, .int .i64 xi, .int .i64 xn] 23)) w.heap.size [.int .i64 8, .int .i64 xr, .int .i64 xa, .int .i64 xb, .int .i64 xi, .int .i64 xn] 23:=Blk.newAt _ rfl rfl
 have ka:=(Kz w).alloc (.cells #[.int .i64 8, .int .i64 xr, .int .i64 xa, .int .i64 xb, .int .i64 xi, .int .i64 xn] 23)
 have s0:=hb1.cell 0;have s1:=hb1.cell 1;have s2:=hb1.cell 2;have s3:=hb1.cell 3;have s4:=hb1.cell 4;have s5:=hb1.cell 5;have sl:=hb1.lt
 simp only [List.getElem?_cons_zero,List.getElem?_cons_succ] at s0 s1 s2 s3 s4 s5
 have HSF:=Hz (fun w=>Check_c ⟨8,xr,xa,xb,xi,xn⟩ w)
 obtain ⟨c,hc⟩:∃ c,checkM ⟨8,xr,xa,xb,xi,xn⟩=c:=⟨_,rfl⟩
 rw [hc] at HSF
 have HC:=Hz hc
 have HB:=Hz hb1;have KA:=Hz ka
 clear hb1 hc ka B
 go_enter Try.func15,Try.ntmps15
 go_wp2_with (refine wpList_agg rfl 23 (.tmp 3) rfl [.int .i64 8, .int .i64 xr, .int .i64 xa, .int .i64 xb, .int .i64 xi, .int .i64 xn] (by kernel_rfl) w.heap.size 0 rfl (rangeAt_cons s0 (rangeAt_cons s1 (rangeAt_cons s2 (rangeAt_cons s3 (rangeAt_cons s4 (rangeAt_cons s5 rangeAt_nil)))))) ?_)
 refine (HSF.out _).mono ?_
 rintro e w1 ⟨rfl,hk⟩
 have HB1:=Hz ((HB0.out.same KA.out).same hk)
 have K1:=Hz (KA.out.trans hk)
 have SB1:=Hz (hk.blk HB.out (fun h=>h))
 have SFR:=Hz (show ¬ h.Own w.heap.size from fun e=>by have:=HB0.out.own_lt e;omega)
 clear hk s0 s1 s2 s3 s4 s5 sl HSF KA HB
 generalize w.heap.size=sb at *
 have s0:=SB1.out.cell 0;have s1:=SB1.out.cell 1;have s2:=SB1.out.cell 2;have s3:=SB1.out.cell 3;have s4:=SB1.out.cell 4;have s5:=SB1.out.cell 5;have sl:=SB1.out.lt
 simp only [List.getElem?_cons_zero,List.getElem?_cons_succ] at s0 s1 s2 s3 s4 s5
 by_cases h0:¬ c=0
 ·have HE:=Hz (show O.do ⟨8,xr,xa,xb,xi,xn⟩=(c,O) by unfold Wo.do;rw [HC.out,if_neg h0])
  have hd:(c != 0)=true:=by simpa using h0
  clear h0
  go_wp2_with fail
  go_ret
  exact ⟨by rw [HE.out];rfl,by rw [HE.out];exact HeapTo.same HB0.out K1.out⟩
 have h0:c=0:=Classical.not_not.1 h0
 subst h0
 have hr:0≤xr∧xr<12:=(rootOk_iff _).1 ((checkM_use HC.out).2.1 (show usesM 8%2=1 by decide))
 obtain ⟨r,rfl⟩:∃ r:Nat,xr=r:=⟨xr.toNat,by omega⟩
 have hr12:r<12:=by omega
 clear hr
 have HE:=Hz (show O.do ⟨8,r,xa,xb,xi,xn⟩=O.newT r 5 (([]:List Nat).map fun (k:Nat)=>(k:Int)) by unfold Wo.do;rw [if_pos HC.out];rfl)
 have HMK:=Hz (HMake_c r 5 [] none 0 HB1.out hr12 (by intro k hk;cases hk) (show fitsW 5 0=true by decide) (Rd.nil _ _) (fun ad e hb hn=>by cases e) (HRM.out.1 _ HB1.out) HRM.out.2)
 go_wp2_with fail
 refine HMK.out.mono ?_
 rintro e w3 ⟨rfl,ht⟩
 have TO:=Hz (HeapTo.from_same K1.out ht)
 clear ht s0 s1 s2 s3 s4 s5 sl
 go_wp2_with fail
 go_ret
 exact ⟨by rw [HE.out];rfl,by rw [HE.out];exact TO.out⟩
theorem HDoReg_c (xr xa xb xi xn:Int) (B:HeapAt w h O) :
  Calls Try.prog 15 #[.pointer (some ⟨h.p,0,none⟩), .agg #[.int .i64 9, .int .i64 xr, .int .i64 xa, .int .i64 xb, .int .i64 xi, .int .i64 xn]] w (HDoRet w h O ⟨9,xr,xa,xb,xi,xn⟩):=by
 unfold HDoRet
 have HB0:=Hz B
 have hb1:Blk (w.alloc (.cells #[.int .i64 9, .int .i64 xr, .int .i64 xa, .int .i64 xb, .int .i64 xi, .int .i64 xn] 23)) w.heap.size [.int .i64 9, .int .i64 xr, .int .i64 xa, .int .i64 xb, .int .i64 xi, .int .i64 xn] 23:=Blk.newAt _ rfl rfl
 have ka:=(Kz w).alloc (.cells #[.int .i64 9, .int .i64 xr, .int .i64 xa, .int .i64 xb, .int .i64 xi, .int .i64 xn] 23)
 have s0:=hb1.cell 0;have s1:=hb1.cell 1;have s2:=hb1.cell 2;have s3:=hb1.cell 3;have s4:=hb1.cell 4;have s5:=hb1.cell 5;have sl:=hb1.lt
 simp only [List.getElem?_cons_zero,List.getElem?_cons_succ] at s0 s1 s2 s3 s4 s5
 have HSF:=Hz (fun w=>Check_c ⟨9,xr,xa,xb,xi,xn⟩ w)
 obtain ⟨c,hc⟩:∃ c,checkM ⟨9,xr,xa,xb,xi,xn⟩=c:=⟨_,rfl⟩
 rw [hc] at HSF
 have HC:=Hz hc
 have HB:=Hz hb1;have KA:=Hz ka
 clear hb1 hc ka B
 go_enter Try.func15,Try.ntmps15
 go_wp2_with (refine wpList_agg rfl 23 (.tmp 3) rfl [.int .i64 9, .int .i64 xr, .int .i64 xa, .int .i64 xb, .int .i64 xi, .int .i64 xn] (by kernel_rfl) w.heap.size 0 rfl (rangeAt_cons s0 (rangeAt_cons s1 (rangeAt_cons s2 (rangeAt_cons s3 (rangeAt_cons s4 (rangeAt_cons s5 rangeAt_nil)))))) ?_)
 refine (HSF.out _).mono ?_
 rintro e w1 ⟨rfl,hk⟩
 have HB1:=Hz ((HB0.out.same KA.out).same hk)
 have K1:=Hz (KA.out.trans hk)
 have SB1:=Hz (hk.blk HB.out (fun h=>h))
 have SFR:=Hz (show ¬ h.Own w.heap.size from fun e=>by have:=HB0.out.own_lt e;omega)
 clear hk s0 s1 s2 s3 s4 s5 sl HSF KA HB
 generalize w.heap.size=sb at *
 have s0:=SB1.out.cell 0;have s1:=SB1.out.cell 1;have s2:=SB1.out.cell 2;have s3:=SB1.out.cell 3;have s4:=SB1.out.cell 4;have s5:=SB1.out.cell 5;have sl:=SB1.out.lt
 simp only [List.getElem?_cons_zero,List.getElem?_cons_succ] at s0 s1 s2 s3 s4 s5
 by_cases h0:¬ c=0
 ·have HE:=Hz (show O.do ⟨9,xr,xa,xb,xi,xn⟩=(c,O) by unfold Wo.do;rw [HC.out,if_neg h0])
  have hd:(c != 0)=true:=by simpa using h0
  clear h0
  go_wp2_with fail
  go_ret
  exact ⟨by rw [HE.out];rfl,by rw [HE.out];exact HeapTo.same HB0.out K1.out⟩
 have h0:c=0:=Classical.not_not.1 h0
 subst h0
 have ha:0≤xa∧xa<12:=(rootOk_iff _).1 ((checkM_use HC.out).2.2.1 (show usesM 9/2%2=1 by decide))
 obtain ⟨a,rfl⟩:∃ a:Nat,xa=a:=⟨xa.toNat,by omega⟩
 have ha12:a<12:=by omega
 clear ha
 have hb:0≤xb∧xb<12:=(rootOk_iff _).1 ((checkM_use HC.out).2.2.2.1 (show usesM 9/4%2=1 by decide))
 obtain ⟨b,rfl⟩:∃ b:Nat,xb=b:=⟨xb.toNat,by omega⟩
 have hb12:b<12:=by omega
 clear hb
 have HE:=Hz (show O.do ⟨9,xr,a,b,xi,xn⟩=O.reg a b by unfold Wo.do;rw [if_pos HC.out];rfl)
 have HCL:=Hz (HReg_c a b xr xi xn HB1.out ha12 hb12)
 unfold HIntRet at HCL
 go_wp2_with (refine wpList_agg rfl 23 (.tmp 3) rfl [.int .i64 9, .int .i64 xr, .int .i64 a, .int .i64 b, .int .i64 xi, .int .i64 xn] (by kernel_rfl) sb 0 rfl (rangeAt_cons s0 (rangeAt_cons s1 (rangeAt_cons s2 (rangeAt_cons s3 (rangeAt_cons s4 (rangeAt_cons s5 rangeAt_nil)))))) ?_)
 refine HCL.out.mono ?_
 rintro e w3 ⟨rfl,ht⟩
 have TO:=Hz (HeapTo.from_same K1.out ht)
 clear ht s0 s1 s2 s3 s4 s5 sl HCL
 go_wp2_with fail
 go_ret
 exact ⟨by rw [HE.out];rfl,by rw [HE.out];exact TO.out⟩
theorem HDoPop_c (xr xa xb xi xn:Int) (B:HeapAt w h O) :
  Calls Try.prog 15 #[.pointer (some ⟨h.p,0,none⟩), .agg #[.int .i64 10, .int .i64 xr, .int .i64 xa, .int .i64 xb, .int .i64 xi, .int .i64 xn]] w (HDoRet w h O ⟨10,xr,xa,xb,xi,xn⟩):=by
 unfold HDoRet
 have HB0:=Hz B
 have hb1:Blk (w.alloc (.cells #[.int .i64 10, .int .i64 xr, .int .i64 xa, .int .i64 xb, .int .i64 xi, .int .i64 xn] 23)) w.heap.size [.int .i64 10, .int .i64 xr, .int .i64 xa, .int .i64 xb, .int .i64 xi, .int .i64 xn] 23:=Blk.newAt _ rfl rfl
 have ka:=(Kz w).alloc (.cells #[.int .i64 10, .int .i64 xr, .int .i64 xa, .int .i64 xb, .int .i64 xi, .int .i64 xn] 23)
 have s0:=hb1.cell 0;have s1:=hb1.cell 1;have s2:=hb1.cell 2;have s3:=hb1.cell 3;have s4:=hb1.cell 4;have s5:=hb1.cell 5;have sl:=hb1.lt
 simp only [List.getElem?_cons_zero,List.getElem?_cons_succ] at s0 s1 s2 s3 s4 s5
 have HSF:=Hz (fun w=>Check_c ⟨10,xr,xa,xb,xi,xn⟩ w)
 obtain ⟨c,hc⟩:∃ c,checkM ⟨10,xr,xa,xb,xi,xn⟩=c:=⟨_,rfl⟩
 rw [hc] at HSF
 have HC:=Hz hc
 have HB:=Hz hb1;have KA:=Hz ka
 clear hb1 hc ka B
 go_enter Try.func15,Try.ntmps15
 go_wp2_with (refine wpList_agg rfl 23 (.tmp 3) rfl [.int .i64 10, .int .i64 xr, .int .i64 xa, .int .i64 xb, .int .i64 xi, .int .i64 xn] (by kernel_rfl) w.heap.size 0 rfl (rangeAt_cons s0 (rangeAt_cons s1 (rangeAt_cons s2 (rangeAt_cons s3 (rangeAt_cons s4 (rangeAt_cons s5 rangeAt_nil)))))) ?_)
 refine (HSF.out _).mono ?_
 rintro e w1 ⟨rfl,hk⟩
 have HB1:=Hz ((HB0.out.same KA.out).same hk)
 have K1:=Hz (KA.out.trans hk)
 have SB1:=Hz (hk.blk HB.out (fun h=>h))
 have SFR:=Hz (show ¬ h.Own w.heap.size from fun e=>by have:=HB0.out.own_lt e;omega)
 clear hk s0 s1 s2 s3 s4 s5 sl HSF KA HB
 generalize w.heap.size=sb at *
 have s0:=SB1.out.cell 0;have s1:=SB1.out.cell 1;have s2:=SB1.out.cell 2;have s3:=SB1.out.cell 3;have s4:=SB1.out.cell 4;have s5:=SB1.out.cell 5;have sl:=SB1.out.lt
 simp only [List.getElem?_cons_zero,List.getElem?_cons_succ] at s0 s1 s2 s3 s4 s5
 by_cases h0:¬ c=0
 ·have HE:=Hz (show O.do ⟨10,xr,xa,xb,xi,xn⟩=(c,O) by unfold Wo.do;rw [HC.out,if_neg h0])
  have hd:(c != 0)=true:=by simpa using h0
  clear h0
  go_wp2_with fail
  go_ret
  exact ⟨by rw [HE.out];rfl,by rw [HE.out];exact HeapTo.same HB0.out K1.out⟩
 have h0:c=0:=Classical.not_not.1 h0
 subst h0
 have hr:0≤xr∧xr<12:=(rootOk_iff _).1 ((checkM_use HC.out).2.1 (show usesM 10%2=1 by decide))
 obtain ⟨r,rfl⟩:∃ r:Nat,xr=r:=⟨xr.toNat,by omega⟩
 have hr12:r<12:=by omega
 clear hr
 have ha:0≤xa∧xa<12:=(rootOk_iff _).1 ((checkM_use HC.out).2.2.1 (show usesM 10/2%2=1 by decide))
 obtain ⟨a,rfl⟩:∃ a:Nat,xa=a:=⟨xa.toNat,by omega⟩
 have ha12:a<12:=by omega
 clear ha
 have HE:=Hz (show O.do ⟨10,r,a,xb,xi,xn⟩=O.pop r a by unfold Wo.do;rw [if_pos HC.out];rfl)
 have HCL:=Hz (HPop_c r a xb xi xn HB1.out hr12 ha12)
 unfold HIntRet at HCL
 go_wp2_with (refine wpList_agg rfl 23 (.tmp 3) rfl [.int .i64 10, .int .i64 r, .int .i64 a, .int .i64 xb, .int .i64 xi, .int .i64 xn] (by kernel_rfl) sb 0 rfl (rangeAt_cons s0 (rangeAt_cons s1 (rangeAt_cons s2 (rangeAt_cons s3 (rangeAt_cons s4 (rangeAt_cons s5 rangeAt_nil)))))) ?_)
 refine HCL.out.mono ?_
 rintro e w3 ⟨rfl,ht⟩
 have TO:=Hz (HeapTo.from_same K1.out ht)
 clear ht s0 s1 s2 s3 s4 s5 sl HCL
 go_wp2_with fail
 go_ret
 exact ⟨by rw [HE.out];rfl,by rw [HE.out];exact TO.out⟩
theorem HDoLen_c (xr xa xb xi xn:Int) (B:HeapAt w h O) :
  Calls Try.prog 15 #[.pointer (some ⟨h.p,0,none⟩), .agg #[.int .i64 13, .int .i64 xr, .int .i64 xa, .int .i64 xb, .int .i64 xi, .int .i64 xn]] w (HDoRet w h O ⟨13,xr,xa,xb,xi,xn⟩):=by
 unfold HDoRet
 have HB0:=Hz B
 have hb1:Blk (w.alloc (.cells #[.int .i64 13, .int .i64 xr, .int .i64 xa, .int .i64 xb, .int .i64 xi, .int .i64 xn] 23)) w.heap.size [.int .i64 13, .int .i64 xr, .int .i64 xa, .int .i64 xb, .int .i64 xi, .int .i64 xn] 23:=Blk.newAt _ rfl rfl
 have ka:=(Kz w).alloc (.cells #[.int .i64 13, .int .i64 xr, .int .i64 xa, .int .i64 xb, .int .i64 xi, .int .i64 xn] 23)
 have s0:=hb1.cell 0;have s1:=hb1.cell 1;have s2:=hb1.cell 2;have s3:=hb1.cell 3;have s4:=hb1.cell 4;have s5:=hb1.cell 5;have sl:=hb1.lt
 simp only [List.getElem?_cons_zero,List.getElem?_cons_succ] at s0 s1 s2 s3 s4 s5
 have HSF:=Hz (fun w=>Check_c ⟨13,xr,xa,xb,xi,xn⟩ w)
 obtain ⟨c,hc⟩:∃ c,checkM ⟨13,xr,xa,xb,xi,xn⟩=c:=⟨_,rfl⟩
 rw [hc] at HSF
 have HC:=Hz hc
 have HB:=Hz hb1;have KA:=Hz ka
 clear hb1 hc ka B
 go_enter Try.func15,Try.ntmps15
 go_wp2_with (refine wpList_agg rfl 23 (.tmp 3) rfl [.int .i64 13, .int .i64 xr, .int .i64 xa, .int .i64 xb, .int .i64 xi, .int .i64 xn] (by kernel_rfl) w.heap.size 0 rfl (rangeAt_cons s0 (rangeAt_cons s1 (rangeAt_cons s2 (rangeAt_cons s3 (rangeAt_cons s4 (rangeAt_cons s5 rangeAt_nil)))))) ?_)
 refine (HSF.out _).mono ?_
 rintro e w1 ⟨rfl,hk⟩
 have HB1:=Hz ((HB0.out.same KA.out).same hk)
 have K1:=Hz (KA.out.trans hk)
 have SB1:=Hz (hk.blk HB.out (fun h=>h))
 have SFR:=Hz (show ¬ h.Own w.heap.size from fun e=>by have:=HB0.out.own_lt e;omega)
 clear hk s0 s1 s2 s3 s4 s5 sl HSF KA HB
 generalize w.heap.size=sb at *
 have s0:=SB1.out.cell 0;have s1:=SB1.out.cell 1;have s2:=SB1.out.cell 2;have s3:=SB1.out.cell 3;have s4:=SB1.out.cell 4;have s5:=SB1.out.cell 5;have sl:=SB1.out.lt
 simp only [List.getElem?_cons_zero,List.getElem?_cons_succ] at s0 s1 s2 s3 s4 s5
 by_cases h0:¬ c=0
 ·have HE:=Hz (show O.do ⟨13,xr,xa,xb,xi,xn⟩=(c,O) by unfold Wo.do;rw [HC.out,if_neg h0])
  have hd:(c != 0)=true:=by simpa using h0
  clear h0
  go_wp2_with fail
  go_ret
  exact ⟨by rw [HE.out];rfl,by rw [HE.out];exact HeapTo.same HB0.out K1.out⟩
 have h0:c=0:=Classical.not_not.1 h0
 subst h0
 have hr:0≤xr∧xr<12:=(rootOk_iff _).1 ((checkM_use HC.out).2.1 (show usesM 13%2=1 by decide))
 obtain ⟨r,rfl⟩:∃ r:Nat,xr=r:=⟨xr.toNat,by omega⟩
 have hr12:r<12:=by omega
 clear hr
 have ha:0≤xa∧xa<12:=(rootOk_iff _).1 ((checkM_use HC.out).2.2.1 (show usesM 13/2%2=1 by decide))
 obtain ⟨a,rfl⟩:∃ a:Nat,xa=a:=⟨xa.toNat,by omega⟩
 have ha12:a<12:=by omega
 clear ha
 have HE:=Hz (show O.do ⟨13,r,a,xb,xi,xn⟩=O.putC r (O.lenC (O.rtA a)) by unfold Wo.do;rw [if_pos HC.out];rfl)
 have HCL:=Hz (HLength_c r a xb xi xn HB1.out hr12 ha12)
 unfold HIntRet at HCL
 go_wp2_with (refine wpList_agg rfl 23 (.tmp 3) rfl [.int .i64 13, .int .i64 r, .int .i64 a, .int .i64 xb, .int .i64 xi, .int .i64 xn] (by kernel_rfl) sb 0 rfl (rangeAt_cons s0 (rangeAt_cons s1 (rangeAt_cons s2 (rangeAt_cons s3 (rangeAt_cons s4 (rangeAt_cons s5 rangeAt_nil)))))) ?_)
 refine HCL.out.mono ?_
 rintro e w3 ⟨rfl,ht⟩
 have TO:=Hz (HeapTo.from_same K1.out ht)
 clear ht s0 s1 s2 s3 s4 s5 sl HCL
 go_wp2_with fail
 go_ret
 exact ⟨by rw [HE.out];rfl,by rw [HE.out];exact TO.out⟩
theorem HDoSame_c (xr xa xb xi xn:Int) (B:HeapAt w h O) :
  Calls Try.prog 15 #[.pointer (some ⟨h.p,0,none⟩), .agg #[.int .i64 14, .int .i64 xr, .int .i64 xa, .int .i64 xb, .int .i64 xi, .int .i64 xn]] w (HDoRet w h O ⟨14,xr,xa,xb,xi,xn⟩):=by
 unfold HDoRet
 have HB0:=Hz B
 have hb1:Blk (w.alloc (.cells #[.int .i64 14, .int .i64 xr, .int .i64 xa, .int .i64 xb, .int .i64 xi, .int .i64 xn] 23)) w.heap.size [.int .i64 14, .int .i64 xr, .int .i64 xa, .int .i64 xb, .int .i64 xi, .int .i64 xn] 23:=Blk.newAt _ rfl rfl
 have ka:=(Kz w).alloc (.cells #[.int .i64 14, .int .i64 xr, .int .i64 xa, .int .i64 xb, .int .i64 xi, .int .i64 xn] 23)
 have s0:=hb1.cell 0;have s1:=hb1.cell 1;have s2:=hb1.cell 2;have s3:=hb1.cell 3;have s4:=hb1.cell 4;have s5:=hb1.cell 5;have sl:=hb1.lt
 simp only [List.getElem?_cons_zero,List.getElem?_cons_succ] at s0 s1 s2 s3 s4 s5
 have HSF:=Hz (fun w=>Check_c ⟨14,xr,xa,xb,xi,xn⟩ w)
 obtain ⟨c,hc⟩:∃ c,checkM ⟨14,xr,xa,xb,xi,xn⟩=c:=⟨_,rfl⟩
 rw [hc] at HSF
 have HC:=Hz hc
 have HB:=Hz hb1;have KA:=Hz ka
 clear hb1 hc ka B
 go_enter Try.func15,Try.ntmps15
 go_wp2_with (refine wpList_agg rfl 23 (.tmp 3) rfl [.int .i64 14, .int .i64 xr, .int .i64 xa, .int .i64 xb, .int .i64 xi, .int .i64 xn] (by kernel_rfl) w.heap.size 0 rfl (rangeAt_cons s0 (rangeAt_cons s1 (rangeAt_cons s2 (rangeAt_cons s3 (rangeAt_cons s4 (rangeAt_cons s5 rangeAt_nil)))))) ?_)
 refine (HSF.out _).mono ?_
 rintro e w1 ⟨rfl,hk⟩
 have HB1:=Hz ((HB0.out.same KA.out).same hk)
 have K1:=Hz (KA.out.trans hk)
 have SB1:=Hz (hk.blk HB.out (fun h=>h))
 have SFR:=Hz (show ¬ h.Own w.heap.size from fun e=>by have:=HB0.out.own_lt e;omega)
 clear hk s0 s1 s2 s3 s4 s5 sl HSF KA HB
 generalize w.heap.size=sb at *
 have s0:=SB1.out.cell 0;have s1:=SB1.out.cell 1;have s2:=SB1.out.cell 2;have s3:=SB1.out.cell 3;have s4:=SB1.out.cell 4;have s5:=SB1.out.cell 5;have sl:=SB1.out.lt
 simp only [List.getElem?_cons_zero,List.getElem?_cons_succ] at s0 s1 s2 s3 s4 s5
 by_cases h0:¬ c=0
 ·have HE:=Hz (show O.do ⟨14,xr,xa,xb,xi,xn⟩=(c,O) by unfold Wo.do;rw [HC.out,if_neg h0])
  have hd:(c != 0)=true:=by simpa using h0
  clear h0
  go_wp2_with fail
  go_ret
  exact ⟨by rw [HE.out];rfl,by rw [HE.out];exact HeapTo.same HB0.out K1.out⟩
 have h0:c=0:=Classical.not_not.1 h0
 subst h0
 have hr:0≤xr∧xr<12:=(rootOk_iff _).1 ((checkM_use HC.out).2.1 (show usesM 14%2=1 by decide))
 obtain ⟨r,rfl⟩:∃ r:Nat,xr=r:=⟨xr.toNat,by omega⟩
 have hr12:r<12:=by omega
 clear hr
 have ha:0≤xa∧xa<12:=(rootOk_iff _).1 ((checkM_use HC.out).2.2.1 (show usesM 14/2%2=1 by decide))
 obtain ⟨a,rfl⟩:∃ a:Nat,xa=a:=⟨xa.toNat,by omega⟩
 have ha12:a<12:=by omega
 clear ha
 have hb:0≤xb∧xb<12:=(rootOk_iff _).1 ((checkM_use HC.out).2.2.2.1 (show usesM 14/4%2=1 by decide))
 obtain ⟨b,rfl⟩:∃ b:Nat,xb=b:=⟨xb.toNat,by omega⟩
 have hb12:b<12:=by omega
 clear hb
 have he:O.do ⟨14,r,a,b,xi,xn⟩=O.putC r (4*(if O.rtA a=O.rtA b then 1 else 0),0):=by unfold Wo.do;rw [if_pos HC.out];rfl
 have hcl:=HSame_c r a b xi xn HB1.out hr12 ha12 hb12
 unfold HIntRet at hcl
 generalize (if O.rtA (a:Int)=O.rtA (b:Int) then (1:Int) else 0)=q at he hcl
 have HE:=Hz he;have HCL:=Hz hcl
 clear he hcl
 go_wp2_with (refine wpList_agg rfl 23 (.tmp 3) rfl [.int .i64 14, .int .i64 r, .int .i64 a, .int .i64 b, .int .i64 xi, .int .i64 xn] (by kernel_rfl) sb 0 rfl (rangeAt_cons s0 (rangeAt_cons s1 (rangeAt_cons s2 (rangeAt_cons s3 (rangeAt_cons s4 (rangeAt_cons s5 rangeAt_nil)))))) ?_)
 refine HCL.out.mono ?_
 rintro e w3 ⟨rfl,ht⟩
 have TO:=Hz (HeapTo.from_same K1.out ht)
 clear ht s0 s1 s2 s3 s4 s5 sl HCL
 go_wp2_with fail
 go_ret
 exact ⟨by rw [HE.out];rfl,by rw [HE.out];exact TO.out⟩
theorem HDoSet_c (xr xa xb xi xn:Int) (B:HeapAt w h O) :
  Calls Try.prog 15 #[.pointer (some ⟨h.p,0,none⟩), .agg #[.int .i64 12, .int .i64 xr, .int .i64 xa, .int .i64 xb, .int .i64 xi, .int .i64 xn]] w (HDoRet w h O ⟨12,xr,xa,xb,xi,xn⟩):=by
 unfold HDoRet
 have HB0:=Hz B
 have hb1:Blk (w.alloc (.cells #[.int .i64 12, .int .i64 xr, .int .i64 xa, .int .i64 xb, .int .i64 xi, .int .i64 xn] 23)) w.heap.size [.int .i64 12, .int .i64 xr, .int .i64 xa, .int .i64 xb, .int .i64 xi, .int .i64 xn] 23:=Blk.newAt _ rfl rfl
 have ka:=(Kz w).alloc (.cells #[.int .i64 12, .int .i64 xr, .int .i64 xa, .int .i64 xb, .int .i64 xi, .int .i64 xn] 23)
 have s0:=hb1.cell 0;have s1:=hb1.cell 1;have s2:=hb1.cell 2;have s3:=hb1.cell 3;have s4:=hb1.cell 4;have s5:=hb1.cell 5;have sl:=hb1.lt
 simp only [List.getElem?_cons_zero,List.getElem?_cons_succ] at s0 s1 s2 s3 s4 s5
 have HSF:=Hz (fun w=>Check_c ⟨12,xr,xa,xb,xi,xn⟩ w)
 obtain ⟨c,hc⟩:∃ c,checkM ⟨12,xr,xa,xb,xi,xn⟩=c:=⟨_,rfl⟩
 rw [hc] at HSF
 have HC:=Hz hc
 have HB:=Hz hb1;have KA:=Hz ka
 clear hb1 hc ka B
 go_enter Try.func15,Try.ntmps15
 go_wp2_with (refine wpList_agg rfl 23 (.tmp 3) rfl [.int .i64 12, .int .i64 xr, .int .i64 xa, .int .i64 xb, .int .i64 xi, .int .i64 xn] (by kernel_rfl) w.heap.size 0 rfl (rangeAt_cons s0 (rangeAt_cons s1 (rangeAt_cons s2 (rangeAt_cons s3 (rangeAt_cons s4 (rangeAt_cons s5 rangeAt_nil)))))) ?_)
 refine (HSF.out _).mono ?_
 rintro e w1 ⟨rfl,hk⟩
 have HB1:=Hz ((HB0.out.same KA.out).same hk)
 have K1:=Hz (KA.out.trans hk)
 have SB1:=Hz (hk.blk HB.out (fun h=>h))
 have SFR:=Hz (show ¬ h.Own w.heap.size from fun e=>by have:=HB0.out.own_lt e;omega)
 clear hk s0 s1 s2 s3 s4 s5 sl HSF KA HB
 generalize w.heap.size=sb at *
 have s0:=SB1.out.cell 0;have s1:=SB1.out.cell 1;have s2:=SB1.out.cell 2;have s3:=SB1.out.cell 3;have s4:=SB1.out.cell 4;have s5:=SB1.out.cell 5;have sl:=SB1.out.lt
 simp only [List.getElem?_cons_zero,List.getElem?_cons_succ] at s0 s1 s2 s3 s4 s5
 by_cases h0:¬ c=0
 ·have HE:=Hz (show O.do ⟨12,xr,xa,xb,xi,xn⟩=(c,O) by unfold Wo.do;rw [HC.out,if_neg h0])
  have hd:(c != 0)=true:=by simpa using h0
  clear h0
  go_wp2_with fail
  go_ret
  exact ⟨by rw [HE.out];rfl,by rw [HE.out];exact HeapTo.same HB0.out K1.out⟩
 have h0:c=0:=Classical.not_not.1 h0
 subst h0
 have ha:0≤xa∧xa<12:=(rootOk_iff _).1 ((checkM_use HC.out).2.2.1 (show usesM 12/2%2=1 by decide))
 obtain ⟨a,rfl⟩:∃ a:Nat,xa=a:=⟨xa.toNat,by omega⟩
 have ha12:a<12:=by omega
 clear ha
 have hb:0≤xb∧xb<12:=(rootOk_iff _).1 ((checkM_use HC.out).2.2.2.1 (show usesM 12/4%2=1 by decide))
 obtain ⟨b,rfl⟩:∃ b:Nat,xb=b:=⟨xb.toNat,by omega⟩
 have hb12:b<12:=by omega
 clear hb
 have HE:=Hz (show O.do ⟨12,xr,a,b,xi,xn⟩=O.set (O.rtA a) xi (O.rtA b) by unfold Wo.do;rw [if_pos HC.out];rfl)
 obtain ⟨b0,bl⟩:=HB1.out.pc
 obtain ⟨g,o,cap,hro,hown,q0,q3,ql,gl,fz,rc⟩:=HB1.out.roots
 have ra:=rc a ha12;have rb:=rc b hb12
 have ra:w1.cell? ⟨g,o+a,none⟩=some (.int .i64 (O.rtA a)):=ra
 have rb:w1.cell? ⟨g,o+b,none⟩=some (.int .i64 (O.rtA b)):=rb
 have ha12i:(a:Int)<12:=by omega
 have hb12i:(b:Int)<12:=by omega
 clear hro hown fz rc
 have hst:=fun w' (R:WoodAt w' h.a O)=>WSet_in (O.rtA a) xi (O.rtA b) R (rtA_R64 R.ok _)
 generalize O.rtA (a:Int)=va at *
 generalize O.rtA (b:Int)=vb at *
 have HST:=Hz hst
 clear hst
 go_wp2_with fail
 refine wp_region_ro (.free 0 (.free 1 (.free 2 (.free 4 (.free 5 (.free 6 (.free 11 (.free 15 (.free 17 (.free 18 (.free 19 (.free 24 (.pure 3 (.pure 7 (.free 8 (.free 9 (.pure 10 (.pure 12 (.free 13 (.pure 14 (.pure 16 (.pure 20 (.free 21 (.free 22 (.pure 23 (.pure 25 (.free 26 (.pure 27 (.run 28 (.swi [] (.free 29 (.fin)))))))))))))))))))))))))))))))) [28,29] (fun w'=>w'.cell? ⟨h.p,0,none⟩=some (.pointer (some ⟨h.a.p,0,none⟩))∧w'.cell? ⟨h.a.p,3,none⟩=some (.slice (some ⟨g,o,none⟩) 12 cap)∧w'.cell? ⟨g,o+a,none⟩=some (.int .i64 va)∧w'.cell? ⟨g,o+b,none⟩=some (.int .i64 vb)∧w'.cell? ⟨sb,2,none⟩=some (.int .i64 a)∧w'.cell? ⟨sb,3,none⟩=some (.int .i64 b)∧w'.cell? ⟨sb,4,none⟩=some (.int .i64 xi)) (by kernel_rfl) (by kernel_rfl) ⟨b0,q3,ra,rb,s2,s3,s4⟩ ?_
 iterate 28 first | (refine wpRO_free rfl rfl _ (fun w'=>by go_simp;exact Gives.mk _ _) (fun K hK=>?_);go_simp;refine hK _ ?_;clear hK K) | (refine wpRO_skipF rfl rfl (fun K hK=>?_);go_simp;refine hK _ ?_;clear hK K) | (refine wpRO_pure rfl rfl _ (fun w' hG=>by obtain ⟨b0,q3,ra,rb,s2,s3,s4⟩:=hG;exact gives_agg2 rfl (by decide +kernel) rfl (by assumption) (by assumption)) (fun K hK=>?_);go_simp;refine hK _ ?_;clear hK K) | (refine wpRO_pure rfl rfl _ (fun w' hG=>by obtain ⟨b0,q3,ra,rb,s2,s3,s4⟩:=hG;go_simp;exact Gives.mk _ _) (fun K hK=>?_);go_simp;refine hK _ ?_;clear hK K) | (refine wpRO_skip rfl rfl (fun K hK=>?_);go_simp;refine hK _ ?_;clear hK K)
 refine wpRO_chg rfl rfl rfl (fun K hK=>?_);unfold gRun;go_simp
 have hk1:=(Kz w1).drew
 refine (HST.out _ (HB1.out.same hk1).H).mono ?_
 rintro e w8 ⟨rfl,ht⟩
 have TO:=Hz (HeapTo.from_same (K1.out.trans hk1) (HeapIn.to ((HB1.out.same hk1).inW ht)))
 refine hK _ _ ?_
 clear hK K ht hk1 s0 s1 s2 s3 s4 s5 sl b0 bl q0 q3 ql gl ra rb
 refine wpRO_swi (fun _=>True) trivial ?_
 iterate 1 first | (refine wpRO_free rfl rfl _ (fun w'=>by go_simp;exact Gives.mk _ _) (fun K hK=>?_);go_simp;refine hK _ ?_;clear hK K) | (refine wpRO_skipF rfl rfl (fun K hK=>?_);go_simp;refine hK _ ?_;clear hK K)
 refine wpRO_fin ?_
 go_wp2_with fail
 go_ret
 exact ⟨by rw [HE.out];rfl,by rw [HE.out];exact TO.out⟩
theorem HDoMinor_c (xr xa xb xi xn:Int) (R:Rep O W φ) (B:HeapAt w h O) :
  Calls Try.prog 15 #[.pointer (some ⟨h.p,0,none⟩), .agg #[.int .i64 15, .int .i64 xr, .int .i64 xa, .int .i64 xb, .int .i64 xi, .int .i64 xn]] w (HDoRet w h O ⟨15,xr,xa,xb,xi,xn⟩):=by
 unfold HDoRet
 have HR:=Hz R
 clear R
 have HB0:=Hz B
 have hb1:Blk (w.alloc (.cells #[.int .i64 15, .int .i64 xr, .int .i64 xa, .int .i64 xb, .int .i64 xi, .int .i64 xn] 23)) w.heap.size [.int .i64 15, .int .i64 xr, .int .i64 xa, .int .i64 xb, .int .i64 xi, .int .i64 xn] 23:=Blk.newAt _ rfl rfl
 have ka:=(Kz w).alloc (.cells #[.int .i64 15, .int .i64 xr, .int .i64 xa, .int .i64 xb, .int .i64 xi, .int .i64 xn] 23)
 have s0:=hb1.cell 0;have s1:=hb1.cell 1;have s2:=hb1.cell 2;have s3:=hb1.cell 3;have s4:=hb1.cell 4;have s5:=hb1.cell 5;have sl:=hb1.lt
 simp only [List.getElem?_cons_zero,List.getElem?_cons_succ] at s0 s1 s2 s3 s4 s5
 have HSF:=Hz (fun w=>Check_c ⟨15,xr,xa,xb,xi,xn⟩ w)
 obtain ⟨c,hc⟩:∃ c,checkM ⟨15,xr,xa,xb,xi,xn⟩=c:=⟨_,rfl⟩
 rw [hc] at HSF
 have HC:=Hz hc
 have HB:=Hz hb1;have KA:=Hz ka
 clear hb1 hc ka B
 go_enter Try.func15,Try.ntmps15
 go_wp2_with (refine wpList_agg rfl 23 (.tmp 3) rfl [.int .i64 15, .int .i64 xr, .int .i64 xa, .int .i64 xb, .int .i64 xi, .int .i64 xn] (by kernel_rfl) w.heap.size 0 rfl (rangeAt_cons s0 (rangeAt_cons s1 (rangeAt_cons s2 (rangeAt_cons s3 (rangeAt_cons s4 (rangeAt_cons s5 rangeAt_nil)))))) ?_)
 refine (HSF.out _).mono ?_
 rintro e w1 ⟨rfl,hk⟩
 have HB1:=Hz ((HB0.out.same KA.out).same hk)
 have K1:=Hz (KA.out.trans hk)
 have SB1:=Hz (hk.blk HB.out (fun h=>h))
 have SFR:=Hz (show ¬ h.Own w.heap.size from fun e=>by have:=HB0.out.own_lt e;omega)
 clear hk s0 s1 s2 s3 s4 s5 sl HSF KA HB
 generalize w.heap.size=sb at *
 have s0:=SB1.out.cell 0;have s1:=SB1.out.cell 1;have s2:=SB1.out.cell 2;have s3:=SB1.out.cell 3;have s4:=SB1.out.cell 4;have s5:=SB1.out.cell 5;have sl:=SB1.out.lt
 simp only [List.getElem?_cons_zero,List.getElem?_cons_succ] at s0 s1 s2 s3 s4 s5
 by_cases h0:¬ c=0
 ·have HE:=Hz (show O.do ⟨15,xr,xa,xb,xi,xn⟩=(c,O) by unfold Wo.do;rw [HC.out,if_neg h0])
  have hd:(c != 0)=true:=by simpa using h0
  clear h0
  go_wp2_with fail
  go_ret
  exact ⟨by rw [HE.out];rfl,by rw [HE.out];exact HeapTo.same HB0.out K1.out⟩
 have h0:c=0:=Classical.not_not.1 h0
 subst h0
 have HE:=Hz (show O.do ⟨15,xr,xa,xb,xi,xn⟩=mCut O by unfold Wo.do;rw [if_pos HC.out];rfl)
 obtain ⟨b0,bl⟩:=HB1.out.pc
 go_wp2_with fail
 refine (minorCut_c HR.out HB1.out.H).mono ?_
 rintro e w5 ⟨rfl,ht⟩
 have TO:=Hz (HeapTo.from_same K1.out (HeapTo.wood HB1.out ht))
 clear ht b0 bl s0 s1 s2 s3 s4 s5 sl
 go_wp2_with fail
 go_ret
 exact ⟨by rw [HE.out];rfl,by rw [HE.out];exact TO.out⟩
theorem HDoMajor_c (xr xa xb xi xn:Int) (R:Rep O W φ) (B:HeapAt w h O) :
  Calls Try.prog 15 #[.pointer (some ⟨h.p,0,none⟩), .agg #[.int .i64 16, .int .i64 xr, .int .i64 xa, .int .i64 xb, .int .i64 xi, .int .i64 xn]] w (HDoRet w h O ⟨16,xr,xa,xb,xi,xn⟩):=by
 unfold HDoRet
 have HR:=Hz R
 clear R
 have HB0:=Hz B
 have hb1:Blk (w.alloc (.cells #[.int .i64 16, .int .i64 xr, .int .i64 xa, .int .i64 xb, .int .i64 xi, .int .i64 xn] 23)) w.heap.size [.int .i64 16, .int .i64 xr, .int .i64 xa, .int .i64 xb, .int .i64 xi, .int .i64 xn] 23:=Blk.newAt _ rfl rfl
 have ka:=(Kz w).alloc (.cells #[.int .i64 16, .int .i64 xr, .int .i64 xa, .int .i64 xb, .int .i64 xi, .int .i64 xn] 23)
 have s0:=hb1.cell 0;have s1:=hb1.cell 1;have s2:=hb1.cell 2;have s3:=hb1.cell 3;have s4:=hb1.cell 4;have s5:=hb1.cell 5;have sl:=hb1.lt
 simp only [List.getElem?_cons_zero,List.getElem?_cons_succ] at s0 s1 s2 s3 s4 s5
 have HSF:=Hz (fun w=>Check_c ⟨16,xr,xa,xb,xi,xn⟩ w)
 obtain ⟨c,hc⟩:∃ c,checkM ⟨16,xr,xa,xb,xi,xn⟩=c:=⟨_,rfl⟩
 rw [hc] at HSF
 have HC:=Hz hc
 have HB:=Hz hb1;have KA:=Hz ka
 clear hb1 hc ka B
 go_enter Try.func15,Try.ntmps15
 go_wp2_with (refine wpList_agg rfl 23 (.tmp 3) rfl [.int .i64 16, .int .i64 xr, .int .i64 xa, .int .i64 xb, .int .i64 xi, .int .i64 xn] (by kernel_rfl) w.heap.size 0 rfl (rangeAt_cons s0 (rangeAt_cons s1 (rangeAt_cons s2 (rangeAt_cons s3 (rangeAt_cons s4 (rangeAt_cons s5 rangeAt_nil)))))) ?_)
 refine (HSF.out _).mono ?_
 rintro e w1 ⟨rfl,hk⟩
 have HB1:=Hz ((HB0.out.same KA.out).same hk)
 have K1:=Hz (KA.out.trans hk)
 have SB1:=Hz (hk.blk HB.out (fun h=>h))
 have SFR:=Hz (show ¬ h.Own w.heap.size from fun e=>by have:=HB0.out.own_lt e;omega)
 clear hk s0 s1 s2 s3 s4 s5 sl HSF KA HB
 generalize w.heap.size=sb at *
 have s0:=SB1.out.cell 0;have s1:=SB1.out.cell 1;have s2:=SB1.out.cell 2;have s3:=SB1.out.cell 3;have s4:=SB1.out.cell 4;have s5:=SB1.out.cell 5;have sl:=SB1.out.lt
 simp only [List.getElem?_cons_zero,List.getElem?_cons_succ] at s0 s1 s2 s3 s4 s5
 by_cases h0:¬ c=0
 ·have HE:=Hz (show O.do ⟨16,xr,xa,xb,xi,xn⟩=(c,O) by unfold Wo.do;rw [HC.out,if_neg h0])
  have hd:(c != 0)=true:=by simpa using h0
  clear h0
  go_wp2_with fail
  go_ret
  exact ⟨by rw [HE.out];rfl,by rw [HE.out];exact HeapTo.same HB0.out K1.out⟩
 have h0:c=0:=Classical.not_not.1 h0
 subst h0
 have HE:=Hz (show O.do ⟨16,xr,xa,xb,xi,xn⟩=jCut O by unfold Wo.do;rw [if_pos HC.out];rfl)
 obtain ⟨b0,bl⟩:=HB1.out.pc
 go_wp2_with fail
 refine (majorCut_c HR.out HB1.out.H).mono ?_
 rintro e w5 ⟨rfl,ht⟩
 have TO:=Hz (HeapTo.from_same K1.out (HeapTo.wood HB1.out ht))
 clear ht b0 bl s0 s1 s2 s3 s4 s5 sl
 go_wp2_with fail
 go_ret
 exact ⟨by rw [HE.out];rfl,by rw [HE.out];exact TO.out⟩
theorem kinds16 {x:St} (h:checkM x=0):1≤x.k∧x.k≤16:=by
 have h1:=(checkM_use h).1
 unfold usesM at h1
 by_cases h2:1≤x.k∧x.k≤16
 ·exact h2
 ·exfalso
  apply h1
  rw [if_neg (by omega),if_neg (by omega),if_neg (by omega),if_neg (by omega),if_neg (by omega)]
theorem HDo_c (x:St) (R:Rep O W φ) (B:HeapAt w h O) :
  Calls Try.prog 15 #[.pointer (some ⟨h.p,0,none⟩), .agg #[.int .i64 x.k, .int .i64 x.r, .int .i64 x.a, .int .i64 x.b, .int .i64 x.i, .int .i64 x.n]] w (HDoRet w h O x):=by
 obtain ⟨k,r,a,b,i,n⟩:=x
 by_cases hc:checkM ⟨k,r,a,b,i,n⟩=0
 ·have hk:=kinds16 hc
  dsimp only at hk ⊢
  have hcs:k=1∨k=2∨k=3∨k=4∨k=5∨k=6∨k=7∨k=8∨k=9∨k=10∨k=11∨k=12∨k=13∨k=14∨k=15∨k=16:=by omega
  clear hc hk
  rcases hcs with rfl | rfl | rfl | rfl | rfl | rfl | rfl | rfl | rfl | rfl | rfl | rfl | rfl | rfl | rfl | rfl
  ·exact HDoInt_c _ _ _ _ _ B
  ·exact HDoNil_c _ _ _ _ _ B
  ·exact HDoMove_c _ _ _ _ _ B
  ·exact HDoPair_c _ _ _ _ _ B (RoomOk.rep R (by omega))
  ·exact HDoVec_c _ _ _ _ _ R B
  ·exact HDoWeak_c _ _ _ _ _ R B
  ·exact HDoEphem_c _ _ _ _ _ R B
  ·exact HDoGuard_c _ _ _ _ _ R B
  ·exact HDoReg_c _ _ _ _ _ B
  ·exact HDoPop_c _ _ _ _ _ B
  ·exact HDoGet_c _ _ _ _ _ B
  ·exact HDoSet_c _ _ _ _ _ B
  ·exact HDoLen_c _ _ _ _ _ B
  ·exact HDoSame_c _ _ _ _ _ B
  ·exact HDoMinor_c _ _ _ _ _ R B
  ·exact HDoMajor_c _ _ _ _ _ R B
 ·exact HDoBad_c _ _ _ _ _ _ B hc
end
end
section
open Go.RowKit
theorem Rd.nth {w:World} {ao:Option Addr} {l:List Int} (h:Rd w ao (l.map (Value.int .i64))) (i:Nat) (hi:i<l.length) :
  ∃ g o,ao=some ⟨g,o,none⟩∧g<w.heap.size∧w.cell? ⟨g,o+i,none⟩=some (.int .i64 (l.getD i 0)):=by
 obtain ⟨g,o,rfl,hg,hc⟩:=h (by intro e;simp at e;subst e;simp at hi)
 refine ⟨g,o,rfl,hg,?_⟩
 rw [hc i (by simpa using hi)]
 simp [List.getD,hi]
def bA1:Ar:=((Ar.new 16 8).make 1 2).2
def bA2:Ar:=(bA1.make 2 12).2
def bA3:Ar:=(bA2.make 5 0).2
def bA4:Ar:=(bA3.copy 0).2
theorem b1:((Ar.new 16 8).make 1 2).1=0:=by decide +kernel
theorem b2:(bA1.make 2 12).1=3:=by decide +kernel
theorem b3:(bA2.make 5 0).1=-1:=by decide +kernel
theorem b4:(bA3.copy 0).1=16:=by decide +kernel
theorem b5:bA4.thing 16=(1,2,0):=by decide +kernel
theorem b6:bA4.things=([0,3],[16]):=by decide +kernel
theorem b7:bA4.load 1=2:=by decide +kernel
end
section
open Go.RowKit
theorem sizeN_step {l:List Nd} {k:Nat} (h:k<l.length):sizeN (l.take (k+1))=sizeN (l.take k)+(1+if (l.getD k (0,[])).1=5 then 0 else ((l.getD k (0,[])).2.length:Int)):=by
 rw [←List.take_append_getElem h]
 unfold sizeN
 rw [List.map_append,List.sum_append]
 have e:l.getD k (0,[])=l[k]:=by rw [List.getD_eq_getElem?_getD,List.getElem?_eq_getElem h];rfl
 rw [e]
 simp
theorem sizeN_bound {l:List Nd} (hl:∀ n ∈ l,n.2.length≤1000000):∀ k:Nat,k≤l.length→0≤sizeN (l.take k)∧sizeN (l.take k)≤1000001*k
 | 0,_=>by simp [sizeN]
 | k+1,h=>by
  have ih:=sizeN_bound hl k (by omega)
  have hm:(l.getD k (0,[])).2.length≤1000000:=by
   rw [List.getD_eq_getElem?_getD,List.getElem?_eq_getElem (by omega)];exact hl _ (List.getElem_mem _)
  rw [sizeN_step (by omega)]
  split
  ·omega
  ·omega
theorem Size_c (x:Value) (V:List Vl × List Nd) (w:World) (h1:ViewR w x V) :
  Calls Try.prog 18 #[x] w fun e w'=>e=.returned (.int .i64 (sizeN V.2))∧Keeps (fun _=>False) w w':=by
 obtain ⟨ro,rc,nv,F,rfl,r1,n1,l1,l2,l3⟩:=h1
 obtain ⟨no,nc,rfl,N1⟩:=n1.nth
 have M1:=Hz n1;have L3:=Hz l3
 clear r1 n1 N1 l3
 go_enter Try.func18,Try.ntmps18
 go_wp2_with fail
 have hka:=(Kz w).alloc (.cells #[.slice ro V.1.length rc, .slice no V.2.length nc] 47)
 have hba:Blk (w.alloc (.cells #[.slice ro V.1.length rc, .slice no V.2.length nc] 47)) w.heap.size [.slice ro V.1.length rc, .slice no V.2.length nc] 47:=Blk.newAt _ rfl rfl
 generalize w.alloc (.cells #[.slice ro V.1.length rc, .slice no V.2.length nc] 47)=wa at *
 generalize w.heap.size=b at *
 have KA:=Hz hka;have BA:=Hz hba
 clear hka hba
 go_loopw [3,4] (fun nn i wr=>∃ k:Nat,k≤V.2.length∧i=.int .i64 k∧nn=.int .i64 (sizeN (V.2.take k))∧Keeps (fun _=>False) w wr∧Blk wr b [.slice ro V.1.length rc, .slice no V.2.length nc] 47) (fun _ i _=>V.2.length-(intOf i).toNat)
 case atStart=>exact ⟨0,Nat.zero_le _,rfl,rfl,KA.out,BA.out⟩
 case round=>
  obtain ⟨k,hk,rfl,rfl,hkk,hb1⟩:=hrel
  have HK:=Hz hkk;have HX1:=Hz hb1
  clear KA BA hkk hb1
  have c1:=HX1.out.cell 1;have cl:=HX1.out.lt
  simp only [List.getElem?_cons_zero,List.getElem?_cons_succ] at c1
  by_cases hlt:k<V.2.length
  ·obtain ⟨no',nc',e',N1⟩:=(M1.out.keep HK.out (fun _ _ _ h=>h) (fun _ _ h=>h)).nth
   cases e'
   obtain ⟨g,o,ao,ac,rfl,hgl,x0,x1,-,-⟩:=N1 k hlt
   have hnl:(V.2.getD k (0,[])).2.length≤1000000:=by
    rw [List.getD_eq_getElem?_getD,List.getElem?_eq_getElem hlt];exact L3.out _ (List.getElem_mem _)
   have hst:=sizeN_step hlt
   have hbd:=sizeN_bound L3.out k hk
   generalize sizeN (V.2.take k)=s at *
   generalize V.2.getD k (0,[])=nd at *
   have HST:=Hz hst
   clear N1 hst
   by_cases h5:nd.1=5
   ·have HS:=Hz (show sizeN (V.2.take (k+1))=s+1 by rw [HST.out,if_pos h5];omega)
    rw [h5] at x0
    clear h5 HST
    go_wp2_with fail
    go_roundw
    case rel=>exact ⟨k+1,hlt,by go_num,by rw [HS.out],HK.out,HX1.out⟩
    case measure=>simp [intOf];omega
   ·have HS:=Hz (show sizeN (V.2.take (k+1))=s+1+nd.2.length by rw [HST.out,if_neg h5];omega)
    have hd:(nd.1 != 5)=true:=by simpa using h5
    clear h5 HST
    go_wp2_with fail
    go_roundw
    case rel=>exact ⟨k+1,hlt,by go_num,by rw [HS.out],HK.out,HX1.out⟩
    case measure=>simp [intOf];omega
  ·obtain rfl:k=V.2.length:=by omega
   rw [List.take_length]
   go_wp2_with fail
   go_ret
   exact ⟨rfl,HK.out⟩
end
section
open Go.RowKit
theorem Rep.lens {O:Wo} {W:Wd} {φ:Int→Int} (R:Rep O W φ):O.view.1.length=12∧O.view.2.length≤1300∧∀ n ∈ O.view.2,n.2.length≤100:=by
 rw [R.view]
 exact (Wd.seen R.hw).lens R.hw
theorem ViewV.rep {w:World} {lo:Nat} {v:Value} {O:Wo} {W:Wd} {φ:Int→Int} (H:ViewV w lo v O.view) (R:Rep O W φ):ViewR w v O.view:=by
 obtain ⟨h1,h2,h3⟩:=R.lens
 exact H.r (by omega) (by omega) (fun n hn=>Nat.le_trans (h3 n hn) (by decide))
section
variable {w w':World}
end
end
section
open Go.RowKit
section
variable {w0 w w':World} {p:Nat} {h:HH} {O O':Wo}
theorem HM.toK (M:HM w0 w p h O) (t:HeapTo w h w' O'):∃ h',HM w0 w' p h' O'∧Keeps h.Own w w':=by
 obtain ⟨h',M'⟩:=M.to t
 obtain ⟨_,_,_,k,_⟩:=t
 exact ⟨h',M',k⟩
theorem HM.doR_c (M:HM w0 w p h O) {W:Wd} {φ:Int→Int} (R:Rep O W φ) (x:St) :
  Calls Try.prog 15 #[.pointer (some ⟨p,0,none⟩), .agg #[.int .i64 x.k, .int .i64 x.r, .int .i64 x.a, .int .i64 x.b, .int .i64 x.i, .int .i64 x.n]] w (HDoRet w h O x):=by
 have:=HDo_c x R M.B
 rw [M.e] at this
 exact this
def RInv (w wr:World) (p:Nat):Prop:=∃ h O,HM w wr p h O∧∃ W φ,Rep O W φ
structure Rf (w wx:World) (O:Wo) (ao:Option Addr) (vb:Nat) (ro:Option Addr) (rc:Nat) (no:Option Addr) (nc lv:Nat):Prop where
 K:Keeps (fun _=>False) w wx
 W:Rd wx ao (O.ar.ws.map (Value.int .i64))
 wn:∀ a,ao=some a→w.heap.size≤a.block
 B:Blk wx vb [.slice ro O.view.1.length rc, .slice no O.view.2.length nc] 47
 bn:w.heap.size≤vb
 ln:w.heap.size≤lv
 V:ViewV wx lv (.agg #[.slice ro O.view.1.length rc, .slice no O.view.2.length nc]) O.view
theorem Rf.keep {S:Nat→Prop} {wx wy:World} {ao:Option Addr} {vb:Nat} {ro:Option Addr} {rc:Nat} {no:Option Addr} {nc lv:Nat} (F:Rf w wx O ao vb ro rc no nc lv) (k:Keeps S wx wy) (hS:∀ j,S j→j<w.heap.size) (k0:Keeps (fun _=>False) w0 wy) :
  Rd wy ao (O.ar.ws.map (Value.int .i64))∧Blk wy vb [.slice ro O.view.1.length rc, .slice no O.view.2.length nc] 47∧ViewV wy lv (.agg #[.slice ro O.view.1.length rc, .slice no O.view.2.length nc]) O.view:=
 ⟨F.W.keep k (fun a e hl hs=>by have:=F.wn a e;have:=hS _ hs;omega),k.blk F.B (fun hs=>by have:=hS _ hs;have:=F.bn;omega),F.V.keep k (fun j hj _ hs=>by have:=hS _ hs;have:=F.ln;omega)⟩
theorem Rf.same {wx wy:World} {ao:Option Addr} {vb:Nat} {ro:Option Addr} {rc:Nat} {no:Option Addr} {nc lv:Nat} (F:Rf w wx O ao vb ro rc no nc lv) (k:Keeps (fun _=>False) wx wy):Rf w wy O ao vb ro rc no nc lv:=
 ⟨F.K.trans k,F.W.keep k (fun _ _ _ h=>h),F.wn,k.blk F.B (fun h=>h),F.bn,F.ln,F.V.keep k (fun _ _ _ h=>h)⟩
theorem HeapRefuses_raw (n o:Int) (lo:Option Addr) (lc m:Nat) (xs:List Int) (w:World) (h0:Rd w lo (xs.map (Value.int .i64))) (hx:xs.length=m*6) (hb:∀ x ∈ xs,R64 x) :
  Calls Try.prog 4 #[.int .i64 n, .int .i64 o, .slice lo m lc] w fun e w'=>e=.returned (.bool true)∧Keeps (fun _=>False) w w':=by
 have H0:=Hz h0;have HX:=Hz hx;have HBD:=Hz hb
 clear h0 hx hb
 go_enter Try.func4,Try.ntmps4
 go_wp2_with fail
 refine (heapBegun_c _).mono ?_
 rintro e w1 ⟨rfl,hk1⟩
 have HK1:=Hz hk1;clear hk1
 by_cases hm:150<m
 ·go_wp2_with fail
  go_ret
  exact ⟨rfl,HK1.out⟩
 have hm250:m≤150:=by omega
 cases hfit:Ar.fits n o
 ·go_wp2_with fail
  refine (HNew_no n o _ hfit).mono ?_
  rintro e w2 ⟨rfl,hk2⟩
  have HK2:=Hz (HK1.out.trans hk2);clear hk2
  have hb1:=show Blk (w2.alloc (.cells #[.int .i64 1, .int .i64 (-1)] 31)) w2.heap.size [.int .i64 1, .int .i64 (-1)] 31 from Blk.newAt _ rfl rfl
  have b0:=hb1.cell 0;have b1:=hb1.cell 1;have bl:=hb1.lt
  simp only [List.getElem?_cons_zero,List.getElem?_cons_succ] at b0 b1
  clear hb1
  go_wp2_with fail
  go_ret
  exact ⟨rfl,HK2.out.alloc _⟩
 have HFIT:=Hz hfit
 go_wp2_with fail
 refine (HNew_yes n o _ hfit).mono ?_
 rintro e w2 ⟨h,rfl,A2,k2,o2⟩
 have hb1:=show Blk (w2.alloc (.cells #[.int .i64 0, .int .i64 0] 31)) w2.heap.size [.int .i64 0, .int .i64 0] 31 from Blk.newAt _ rfl rfl
 have hka:=(Kz w2).alloc (.cells #[.int .i64 0, .int .i64 0] 31)
 have hM2:=(show HM w w2 h.p h _ from ⟨A2,rfl,HK1.out.trans k2,fun k hk=>Nat.le_trans HK1.out.size (o2 k hk)⟩).same hka
 have b0:=hb1.cell 0;have bl:=hb1.lt
 simp only [List.getElem?_cons_zero,List.getElem?_cons_succ] at b0
 go_upto_region 6 with (fail)
 generalize w2.alloc (.cells #[.int .i64 0, .int .i64 0] 31)=w3 at *
 have M3:=Hz hM2
 clear hb1 hka hM2 A2 k2 o2 HK1 hfit
 generalize h.p=p at *
 have HI:=Hz (show RInv w w3 p from ⟨h,_,M3.out,_,_,Rep.new HFIT.out⟩)
 clear M3 HFIT hm
 go_wp2_with fail
 refine wp_loop_over (fun i=>Nat.blt 32 i || Nat.blt 8 i && Nat.blt i 19) (fun s wr=>∃ k:Nat,k≤m∧s 9=.int .i64 k∧RInv w wr p) (fun s _=>m-(intOf (s 9)).toNat) ?_ ?_
 ·exact ⟨0,Nat.zero_le _,rfl,HI.out⟩
 ·intro u0 wr hrel K hK
  clear HI
  obtain ⟨k,hk,e9,hI⟩:=hrel
  have e9:u0 9=.int .i64 k:=e9
  have HI:=Hz hI
  clear hI
  simp only [overA,overL,List.toList_toArray,Nat.blt,Nat.beq,Nat.ble,Nat.reduceAdd,Bool.or_false,Bool.false_or,Bool.or_true,Bool.true_or,Bool.and_true,Bool.true_and,Bool.and_false,Bool.false_and,cond_true,cond_false]
  rw [e9]
  have E9:=Hz e9;clear e9
  by_cases hlt:k<m
  ·obtain ⟨h1,O1,M1,W1,φ1,R1⟩:=HI.out
   obtain ⟨gs,os,rfl,hgl,d0⟩:=H0.out.nth (k*6) (by rw [HX.out];omega)
   obtain ⟨_,_,e',-,d1⟩:=H0.out.nth (k*6+1) (by rw [HX.out];omega)
   cases e'
   obtain ⟨_,_,e',-,d2⟩:=H0.out.nth (k*6+2) (by rw [HX.out];omega)
   cases e'
   obtain ⟨_,_,e',-,d3⟩:=H0.out.nth (k*6+3) (by rw [HX.out];omega)
   cases e'
   obtain ⟨_,_,e',-,d4⟩:=H0.out.nth (k*6+4) (by rw [HX.out];omega)
   cases e'
   obtain ⟨_,_,e',-,d5⟩:=H0.out.nth (k*6+5) (by rw [HX.out];omega)
   cases e'
   rw [←Nat.add_assoc] at d1 d2 d3 d4 d5
   have HZ:=Hz (show R64 (xs.getD (k*6+5) 0) from HBD.out _ (by rw [List.getD_eq_getElem?_getD,List.getElem?_eq_getElem (by rw [HX.out];omega)];exact List.getElem_mem _))
   generalize xs.getD (k*6) 0=d at *
   generalize xs.getD (k*6+1) 0=r at *
   generalize xs.getD (k*6+2) 0=a at *
   generalize xs.getD (k*6+3) 0=b at *
   generalize xs.getD (k*6+4) 0=i at *
   generalize xs.getD (k*6+5) 0=z at *
   have hcl:∀ w',Keeps (fun _=>False) w w'→w'.cell? ⟨gs,os+k*6,none⟩=some (.int .i64 d)∧w'.cell? ⟨gs,os+k*6+1,none⟩=some (.int .i64 r)∧w'.cell? ⟨gs,os+k*6+2,none⟩=some (.int .i64 a)∧w'.cell? ⟨gs,os+k*6+3,none⟩=some (.int .i64 b)∧w'.cell? ⟨gs,os+k*6+4,none⟩=some (.int .i64 i)∧w'.cell? ⟨gs,os+k*6+5,none⟩=some (.int .i64 z):=fun w' kk=>by
    have hcc:∀ q,w'.cell? ⟨gs,q,none⟩=w.cell? ⟨gs,q,none⟩:=fun q=>World.cell?_of_block (w:=w) (a:=⟨gs,q,none⟩) (kk.block gs hgl (fun h=>h))
    exact ⟨(hcc _).trans d0,(hcc _).trans d1,(hcc _).trans d2,(hcc _).trans d3,(hcc _).trans d4,(hcc _).trans d5⟩
   have HCL:=Hz hcl
   clear d0 d1 d2 d3 d4 d5 hcl
   obtain ⟨d0,d1,d2,d3,d4,d5⟩:=HCL.out _ (M1.K)
   have hgl:=Nat.lt_of_lt_of_le hgl (Keeps.size (M1.K))
   have M:=Hz M1;have R:=Hz R1
   have OL:=Hz (fun j (hj:h1.Own j)=>M1.B.own_lt hj)
   clear HI M1 R1
   obtain ⟨c0,pl⟩:=M.out.pc
   have q0:=M.out.B.H.ptrs.1;have ql:=M.out.B.H.hp.lt
   have hki:(k:Int)<m:=by omega
   go_upto_region 11 with (fail)
   refine wp_cut_over (fun i=>Nat.blt 38 i && Nat.blt i 52 || Nat.beq 10 i || Nat.beq 11 i) (fun s wx=>∃ ao ac vb ro rc no nc lv,s 10=.slice ao O1.ar.ws.length ac∧s 11=.pointer (some ⟨vb,0,none⟩)∧Rf wr wx O1 ao vb ro rc no nc lv) ?_ ?_
   ·intro K hK
    go_wp2_with fail
    refine wp_region_ro (.free 0 (.free 1 (.free 2 (.free 8 (.free 9 (.free 10 (.pure 3 (.free 4 (.free 5 (.pure 6 (.pure 11 (.two 7 (.two 12 (.run 13 (.free 14 (.run 15 (.swi [] (.fin))))) 13 (.run 12 (.free 14 (.run 15 (.swi [] (.fin)))))) 13 (.run 7 (.run 12 (.free 14 (.run 15 (.swi [] (.fin)))))))))))))))))) [15] (fun w'=>w'.cell? ⟨p,0,none⟩=some (.pointer (some ⟨h1.a.p,0,none⟩))∧w'.cell? ⟨h1.a.p,0,none⟩=some (.pointer (some ⟨h1.a.pa,0,none⟩))) (by kernel_rfl) (by kernel_rfl) ⟨c0,q0⟩ ?_
    iterate 11 first | (refine wpRO_free rfl rfl _ (fun w'=>by go_simp;exact Gives.mk _ _) (fun K hK=>?_);go_simp;refine hK _ ?_;clear hK K) | (refine wpRO_skipF rfl rfl (fun K hK=>?_);go_simp;refine hK _ ?_;clear hK K) | (refine wpRO_pure rfl rfl _ (fun w' hG=>by obtain ⟨c0,q0⟩:=hG;exact gives_agg2 rfl (by decide +kernel) rfl (by assumption) (by assumption)) (fun K hK=>?_);go_simp;refine hK _ ?_;clear hK K) | (refine wpRO_pure rfl rfl _ (fun w' hG=>by obtain ⟨c0,q0⟩:=hG;go_simp;exact Gives.mk _ _) (fun K hK=>?_);go_simp;refine hK _ ?_;clear hK K) | (refine wpRO_skip rfl rfl (fun K hK=>?_);go_simp;refine hK _ ?_;clear hK K)
    refine wpRO_two rfl rfl rfl rfl (fun K hK=>?_) (fun K hK=>?_)
    ·
     have M1:=Hz (M.out.same ((Kz wr).drew));have K1:=Hz ((Kz wr).drew)
     unfold gRun;go_simp
     refine (Words_c _ M1.out.B.H.ha).mono ?_
     rintro e w2 ⟨ao,ac,rfl,hs,hk2,ho⟩
     have M2:=Hz (M1.out.same hk2);have K2:=Hz (K1.out.trans hk2);have KW:=Hz hk2
     have S2:=Hz hs;have O2:=Hz (show ∀ j,ownB (.slice ao O1.ar.ws.length ac) j→wr.heap.size≤j from fun j hj=>Nat.le_trans K1.out.size (ho j hj))
     clear hs hk2 ho
     refine hK _ _ (fun h=>h) (fun _ _=>⟨M2.out.pc.1,M2.out.B.H.ptrs.1⟩) ?_
     clear hK K M1 K1 KW
     refine wpRO_two rfl rfl rfl rfl (fun K hK=>?_) (fun K hK=>?_)
     ·skip
      unfold gRun;go_simp
      refine (View_c _ M2.out.B.H).mono ?_
      rintro e w3 ⟨v,rfl,hv,hk3⟩
      obtain ⟨ro,rc,no,nc,F,rfl,hva,hvb,hvc⟩:=hv
      have V3:=Hz (show ViewV w3 w2.heap.size _ O1.view from ⟨ro,rc,no,nc,F,rfl,hva,hvb,hvc⟩)
      have M3:=Hz (M2.out.same hk3);have K3:=Hz (K2.out.trans hk3);have S3:=Hz (S2.out.keep hk3 (fun _ _ h=>h));have KV:=Hz hk3
      clear hva hvb hvc hk3
      refine hK _ _ (fun h=>h) (fun _ _=>⟨M3.out.pc.1,M3.out.B.H.ptrs.1⟩) ?_
      clear hK K
      refine wpRO_run rfl rfl (fun K hK=>?_);unfold gRun;go_simp
      have ka:=(Kz w3).alloc (.cells #[.slice none 0 0, .slice none 0 0] 47)
      have BV:=Hz (show Blk (w3.alloc (.cells #[.slice none 0 0, .slice none 0 0] 47)) w3.heap.size [.slice none 0 0, .slice none 0 0] 47 from Blk.newAt _ rfl rfl)
      have BN:=Hz (show wr.heap.size≤w3.heap.size from K3.out.size)
      have M4:=Hz (M3.out.same ka);have K4:=Hz (K3.out.trans ka);have S4:=Hz (S3.out.keep ka (fun _ _ h=>h))
      have LN:=Hz (show wr.heap.size≤w2.heap.size from K2.out.size)
      have VK:=Hz (show ∀ a b,ViewV (((w3.alloc (.cells #[.slice none 0 0, .slice none 0 0] 47)).setCell ⟨w3.heap.size,0,none⟩ a).setCell ⟨w3.heap.size,1,none⟩ b) w2.heap.size (.agg #[.slice ro O1.view.1.length rc, .slice no O1.view.2.length nc]) O1.view from fun a b=>V3.out.keep ((ka.setCell (p:=⟨w3.heap.size,0,none⟩) (.inr (Nat.le_refl _)) a).setCell (p:=⟨w3.heap.size,1,none⟩) (.inr (Nat.le_refl _)) b) (fun _ _ _ h=>h))
      refine hK _ _ (fun _=>⟨M4.out.pc.1,M4.out.B.H.ptrs.1⟩) ?_
      clear hK K ka V3 S3 M3 K3 KV
      generalize w3.alloc (.cells #[.slice none 0 0, .slice none 0 0] 47)=w4 at *
      generalize w3.heap.size=vb at *
      generalize w2.heap.size=lv at *
      iterate 1 first | (refine wpRO_free rfl rfl _ (fun w'=>by go_simp;exact Gives.mk _ _) (fun K hK=>?_);go_simp;refine hK _ ?_;clear hK K) | (refine wpRO_skipF rfl rfl (fun K hK=>?_);go_simp;refine hK _ ?_;clear hK K)
      have x0:=BV.out.cell 0;have x1:=BV.out.cell 1;have f0:=BV.out.free 0;have f1:=BV.out.free 1;have xl:=BV.out.lt
      simp only [List.getElem?_cons_zero,List.getElem?_cons_succ] at x0 x1
      refine wpRO_chg rfl rfl rfl (fun K hK=>?_);unfold gRun;go_simp
      have hset:=((Keeps.refl (·=vb) w4).setCell (p:=⟨vb,0,none⟩) (.inl rfl) (.slice ro O1.view.1.length rc)).setCell (p:=⟨vb,1,none⟩) (.inl rfl) (.slice no O1.view.2.length nc)
      obtain ⟨_,_,e',rd4,-,-⟩:=S4.out.rd
      cases e'
      have RF:=Hz (show Rf wr ((w4.setCell ⟨vb,0,none⟩ (.slice ro O1.view.1.length rc)).setCell ⟨vb,1,none⟩ (.slice no O1.view.2.length nc)) O1 ao vb ro rc no nc lv from
       ⟨K4.out.then hset (fun j hj=>.inr (by rw [hj];exact BN.out)),rd4.keep hset (fun a ha hl e=>by
        subst ha
        obtain ⟨_,c,hc⟩:=S4.out.own (k:=a.block) rfl
        exact hc.ne BV.out (by decide) e),fun a ha=>O2.out _ (by subst ha;rfl),by simpa using (BV.out.setSame 0 _).setSame 1 _,BN.out,LN.out,VK.out _ _⟩)
      refine hK _ _ ?_
      clear hK K hset rd4 x0 x1 f0 f1 xl
      refine wpRO_swi (fun _=>True) trivial (wpRO_fin ?_)
      generalize (w4.setCell ⟨vb,0,none⟩ (.slice ro O1.view.1.length rc)).setCell ⟨vb,1,none⟩ (.slice no O1.view.2.length nc)=w5 at *
      go_wp2_with fail
      refine ⟨by kernel_rfl,?_⟩
      exact ⟨ao,ac,vb,ro,rc,no,nc,lv,rfl,rfl,RF.out⟩
     ·skip
      unfold gRun;go_simp
      have ka:=(Kz w2).alloc (.cells #[.slice none 0 0, .slice none 0 0] 47)
      have BV:=Hz (show Blk (w2.alloc (.cells #[.slice none 0 0, .slice none 0 0] 47)) w2.heap.size [.slice none 0 0, .slice none 0 0] 47 from Blk.newAt _ rfl rfl)
      have BN:=Hz (show wr.heap.size≤w2.heap.size from K2.out.size)
      have M4:=Hz (M2.out.same ka);have K4:=Hz (K2.out.trans ka);have S4:=Hz (S2.out.keep ka (fun _ _ h=>h))
      have LVB:=Hz (show w2.heap.size<(w2.alloc (.cells #[.slice none 0 0, .slice none 0 0] 47)).heap.size by simp)
      refine hK _ _ (fun h=>h) (fun _ _=>⟨M4.out.pc.1,M4.out.B.H.ptrs.1⟩) ?_
      clear hK K ka
      generalize w2.alloc (.cells #[.slice none 0 0, .slice none 0 0] 47)=w4 at *
      generalize w2.heap.size=vb at *
      refine wpRO_run rfl rfl (fun K hK=>?_)
      unfold gRun;go_simp
      refine (View_c _ M4.out.B.H).mono ?_
      rintro e w3 ⟨v,rfl,hv,hk3⟩
      obtain ⟨ro,rc,no,nc,F,rfl,hva,hvb,hvc⟩:=hv
      have V3:=Hz (show ViewV w3 w4.heap.size _ O1.view from ⟨ro,rc,no,nc,F,rfl,hva,hvb,hvc⟩)
      have M3:=Hz (M4.out.same hk3);have K3:=Hz (K4.out.trans hk3);have S3:=Hz (S4.out.keep hk3 (fun _ _ h=>h));have KV:=Hz hk3
      clear hva hvb hvc hk3
      have BV3:=Hz (KV.out.blk BV.out (fun h=>h))
      have LN:=Hz (show wr.heap.size≤w4.heap.size from K4.out.size)
      refine hK _ _ (fun _=>⟨M3.out.pc.1,M3.out.B.H.ptrs.1⟩) ?_
      clear hK K KV BV
      generalize w4.heap.size=lv at *
      have VK:=Hz (show ∀ a b,ViewV ((w3.setCell ⟨vb,0,none⟩ a).setCell ⟨vb,1,none⟩ b) lv (.agg #[.slice ro O1.view.1.length rc, .slice no O1.view.2.length nc]) O1.view from fun a b=>V3.out.keep (((Keeps.refl (·=vb) w3).setCell (p:=⟨vb,0,none⟩) (.inl rfl) a).setCell (p:=⟨vb,1,none⟩) (.inl rfl) b) (fun j h1 h2 h=>by have:=LVB.out;omega))
      clear V3
      iterate 1 first | (refine wpRO_free rfl rfl _ (fun w'=>by go_simp;exact Gives.mk _ _) (fun K hK=>?_);go_simp;refine hK _ ?_;clear hK K) | (refine wpRO_skipF rfl rfl (fun K hK=>?_);go_simp;refine hK _ ?_;clear hK K)
      have x0:=BV3.out.cell 0;have x1:=BV3.out.cell 1;have f0:=BV3.out.free 0;have f1:=BV3.out.free 1;have xl:=BV3.out.lt
      simp only [List.getElem?_cons_zero,List.getElem?_cons_succ] at x0 x1
      refine wpRO_chg rfl rfl rfl (fun K hK=>?_);unfold gRun;go_simp
      have hset:=((Keeps.refl (·=vb) w3).setCell (p:=⟨vb,0,none⟩) (.inl rfl) (.slice ro O1.view.1.length rc)).setCell (p:=⟨vb,1,none⟩) (.inl rfl) (.slice no O1.view.2.length nc)
      obtain ⟨_,_,e',rd4,-,-⟩:=S3.out.rd
      cases e'
      have RF:=Hz (show Rf wr ((w3.setCell ⟨vb,0,none⟩ (.slice ro O1.view.1.length rc)).setCell ⟨vb,1,none⟩ (.slice no O1.view.2.length nc)) O1 ao vb ro rc no nc lv from
       ⟨K3.out.then hset (fun j hj=>.inr (by rw [hj];exact BN.out)),rd4.keep hset (fun a ha hl e=>by
        subst ha
        obtain ⟨_,c,hc⟩:=S3.out.own (k:=a.block) rfl
        exact hc.ne BV3.out (by decide) e),fun a ha=>O2.out _ (by subst ha;rfl),by simpa using (BV3.out.setSame 0 _).setSame 1 _,BN.out,LN.out,VK.out _ _⟩)
      refine hK _ _ ?_
      clear hK K hset rd4 x0 x1 f0 f1 xl
      refine wpRO_swi (fun _=>True) trivial (wpRO_fin ?_)
      generalize (w3.setCell ⟨vb,0,none⟩ (.slice ro O1.view.1.length rc)).setCell ⟨vb,1,none⟩ (.slice no O1.view.2.length nc)=w5 at *
      go_wp2_with fail
      refine ⟨by kernel_rfl,?_⟩
      exact ⟨ao,ac,vb,ro,rc,no,nc,lv,rfl,rfl,RF.out⟩
    ·skip
     unfold gRun;go_simp
     have ka:=((Kz wr).alloc (.cells #[.slice none 0 0, .slice none 0 0] 47)).drew
     have BV:=Hz (show Blk ((wr.alloc (.cells #[.slice none 0 0, .slice none 0 0] 47)).drew) wr.heap.size [.slice none 0 0, .slice none 0 0] 47 from (Blk.newAt (w:=wr) (T:=47) #[.slice none 0 0, .slice none 0 0] rfl rfl).drew)
     have BN:=Hz (Nat.le_refl wr.heap.size)
     have M1:=Hz (M.out.same ka);have K1:=Hz ka
     have LVB:=Hz (show wr.heap.size<((wr.alloc (.cells #[.slice none 0 0, .slice none 0 0] 47)).drew).heap.size by simp)
     refine hK _ _ (fun h=>h) (fun _ _=>⟨M1.out.pc.1,M1.out.B.H.ptrs.1⟩) ?_
     clear hK K ka
     generalize (wr.alloc (.cells #[.slice none 0 0, .slice none 0 0] 47)).drew=w1 at *
     obtain ⟨vb,hvb⟩:∃ v,wr.heap.size=v:=⟨_,rfl⟩
     rw [hvb] at BV LVB
     rw [hvb]
     have BN:=Hz (show wr.heap.size≤vb by omega)
     clear hvb
     refine wpRO_run rfl rfl (fun K hK=>?_)
     unfold gRun;go_simp
     refine (Words_c _ M1.out.B.H.ha).mono ?_
     rintro e w2 ⟨ao,ac,rfl,hs,hk2,ho⟩
     have M2:=Hz (M1.out.same hk2);have K2:=Hz (K1.out.trans hk2);have KW:=Hz hk2
     have S2:=Hz hs;have O2:=Hz (show ∀ j,ownB (.slice ao O1.ar.ws.length ac) j→wr.heap.size≤j from fun j hj=>Nat.le_trans K1.out.size (ho j hj))
     clear hs hk2 ho
     have BV2:=Hz (KW.out.blk BV.out (fun h=>h));have LVB2:=Hz (show vb<w2.heap.size by have:=LVB.out;have:=KW.out.size;omega)
     refine hK _ _ (fun _=>⟨M2.out.pc.1,M2.out.B.H.ptrs.1⟩) ?_
     clear hK K M1 K1 KW BV LVB
     refine wpRO_run rfl rfl (fun K hK=>?_)
     unfold gRun;go_simp
     refine (View_c _ M2.out.B.H).mono ?_
     rintro e w3 ⟨v,rfl,hv,hk3⟩
     obtain ⟨ro,rc,no,nc,F,rfl,hva,hvb,hvc⟩:=hv
     have V3:=Hz (show ViewV w3 w2.heap.size _ O1.view from ⟨ro,rc,no,nc,F,rfl,hva,hvb,hvc⟩)
     have M3:=Hz (M2.out.same hk3);have K3:=Hz (K2.out.trans hk3);have S3:=Hz (S2.out.keep hk3 (fun _ _ h=>h));have KV:=Hz hk3
     clear hva hvb hvc hk3
     have BV3:=Hz (KV.out.blk BV2.out (fun h=>h))
     have LN:=Hz (show wr.heap.size≤w2.heap.size from K2.out.size)
     refine hK _ _ (fun _=>⟨M3.out.pc.1,M3.out.B.H.ptrs.1⟩) ?_
     clear hK K KV BV2
     have LVB:=LVB2
     clear LVB2
     generalize w2.heap.size=lv at *
     have VK:=Hz (show ∀ a b,ViewV ((w3.setCell ⟨vb,0,none⟩ a).setCell ⟨vb,1,none⟩ b) lv (.agg #[.slice ro O1.view.1.length rc, .slice no O1.view.2.length nc]) O1.view from fun a b=>V3.out.keep (((Keeps.refl (·=vb) w3).setCell (p:=⟨vb,0,none⟩) (.inl rfl) a).setCell (p:=⟨vb,1,none⟩) (.inl rfl) b) (fun j h1 h2 h=>by have:=LVB.out;omega))
     clear V3
     iterate 1 first | (refine wpRO_free rfl rfl _ (fun w'=>by go_simp;exact Gives.mk _ _) (fun K hK=>?_);go_simp;refine hK _ ?_;clear hK K) | (refine wpRO_skipF rfl rfl (fun K hK=>?_);go_simp;refine hK _ ?_;clear hK K)
     have x0:=BV3.out.cell 0;have x1:=BV3.out.cell 1;have f0:=BV3.out.free 0;have f1:=BV3.out.free 1;have xl:=BV3.out.lt
     simp only [List.getElem?_cons_zero,List.getElem?_cons_succ] at x0 x1
     refine wpRO_chg rfl rfl rfl (fun K hK=>?_);unfold gRun;go_simp
     have hset:=((Keeps.refl (·=vb) w3).setCell (p:=⟨vb,0,none⟩) (.inl rfl) (.slice ro O1.view.1.length rc)).setCell (p:=⟨vb,1,none⟩) (.inl rfl) (.slice no O1.view.2.length nc)
     obtain ⟨_,_,e',rd4,-,-⟩:=S3.out.rd
     cases e'
     have RF:=Hz (show Rf wr ((w3.setCell ⟨vb,0,none⟩ (.slice ro O1.view.1.length rc)).setCell ⟨vb,1,none⟩ (.slice no O1.view.2.length nc)) O1 ao vb ro rc no nc lv from
      ⟨K3.out.then hset (fun j hj=>.inr (by rw [hj];exact BN.out)),rd4.keep hset (fun a ha hl e=>by
       subst ha
       obtain ⟨_,c,hc⟩:=S3.out.own (k:=a.block) rfl
       exact hc.ne BV3.out (by decide) e),fun a ha=>O2.out _ (by subst ha;rfl),by simpa using (BV3.out.setSame 0 _).setSame 1 _,BN.out,LN.out,VK.out _ _⟩)
     refine hK _ _ ?_
     clear hK K hset rd4 x0 x1 f0 f1 xl
     refine wpRO_swi (fun _=>True) trivial (wpRO_fin ?_)
     generalize (w3.setCell ⟨vb,0,none⟩ (.slice ro O1.view.1.length rc)).setCell ⟨vb,1,none⟩ (.slice no O1.view.2.length nc)=w5 at *
     go_wp2_with fail
     refine ⟨by kernel_rfl,?_⟩
     exact ⟨ao,ac,vb,ro,rc,no,nc,lv,rfl,rfl,RF.out⟩
   ·intro u wx hrel
    obtain ⟨ao,ac,vb,ro,rc,no,nc,lv,e10,e11,hrf⟩:=hrel
    have e10:u 10=.slice ao O1.ar.ws.length ac:=e10
    have e11:u 11=.pointer (some ⟨vb,0,none⟩):=e11
    have RF:=Hz hrf
    have M5:=Hz (M.out.same hrf.K)
    clear hrf c0 pl q0 ql M
    simp (maxSteps:=2000000) only [overA,overL,List.toList_toArray,Nat.blt,Nat.beq,Nat.ble,Nat.reduceAdd,Bool.or_false,Bool.false_or,Bool.or_true,Bool.true_or,Bool.and_true,Bool.true_and,Bool.and_false,Bool.false_and,cond_true,cond_false]
    rw [e10,e11]
    clear e10 e11
    obtain ⟨ii,hi,hz0,hz1,hz2⟩:=info_parts info_i64
    have Ii:=Hz hi;have Iz0:=Hz hz0;have Iz1:=Hz hz1;have Iz2:=Hz hz2;clear hi hz0 hz1 hz2
    obtain ⟨c0,pl⟩:=M5.out.pc
    have q3:=M5.out.B.H.hp.cell 3;have ql:=M5.out.B.H.hp.lt
    simp only [List.getElem?_cons_zero,List.getElem?_cons_succ] at q3
    obtain ⟨go,gc,ero,grd,-,-⟩:=M5.out.B.H.hr.rd
    have h12:=M5.out.B.H.ok.h12
    rw [ero] at q3
    have GRD:=Hz grd
    clear grd ero
    obtain ⟨rl,hrl⟩:∃ n,O1.rt.length=n:=⟨_,rfl⟩
    have HRL:=Hz hrl
    rw [hrl] at q3
    have h12:rl≤12:=by omega
    clear hrl
    go_wp2_with (at_builtin;refine wpList_appR rfl (.tmp 52) (.tmp 59) 34 rfl 2 ii (.int .i64 0) 1 8 Try.underlying34 Ii.out Iz0.out Iz1.out Iz2.out rfl (by decide) _ 0 [] rfl (Sl.nil _ _ _) go rl gc (O1.rt.map (Value.int .i64)) rfl (by rw [List.length_map,HRL.out];omega) GRD.out int_one' (by unfold maxLen;omega) (by omega) ?_)
    intro v6 w6 hs6 hk6 ho6
    have kk6:Keeps (fun _=>False) wx w6:=hk6.mono (fun j _ hj=>(nil_own hj).elim)
    have M6:=Hz (M5.out.same kk6);have RF6:=Hz (RF.out.same kk6)
    obtain ⟨tl,tc,e6,-,-,-⟩:=hs6.rd
    subst e6
    have TN:=Hz (show ∀ a,tl=some a→wr.heap.size≤a.block from fun a ha=>by
     rcases ho6 a.block (by subst ha;rfl) with h1 | h1
     ·exact (nil_own h1).elim
     ·exact Nat.le_trans RF.out.K.size h1)
    obtain ⟨_,_,e',trd,-,-⟩:=hs6.rd
    cases e'
    have TR6:=Hz (show Rd w6 tl (O1.rt.map (Value.int .i64)) from trd)
    clear hs6 hk6 ho6 trd kk6 M5 RF GRD c0 pl q3 ql
    obtain ⟨c0,pl⟩:=M6.out.pc
    have q0:=M6.out.B.H.ptrs.1;have ql:=M6.out.B.H.hp.lt
    go_wp2_with fail
    refine (Used_c _ M6.out.B.H.ha).mono ?_
    rintro e w7 ⟨rfl,hk⟩
    have M7:=Hz (M6.out.same hk);have RF7:=Hz (RF6.out.same hk);have TR7:=Hz (TR6.out.keep hk (fun _ _ _ h=>h))
    clear hk c0 pl q0 ql M6 RF6 TR6
    obtain ⟨ya,hya⟩:∃ y,((O1.ar.yng:Nat):Int)=y:=⟨_,rfl⟩
    obtain ⟨ga,hga⟩:∃ y,((O1.ar.grn-O1.ar.nur:Nat):Int)=y:=⟨_,rfl⟩
    rw [hya,hga]
    have HYA:=Hz hya;have HGA:=Hz hga
    clear hya hga
    obtain ⟨c0,pl⟩:=M7.out.pc
    have q2:=M7.out.B.H.ptrs.2.2.1;have ql:=M7.out.B.H.hp.lt
    have x0:=M7.out.B.H.hs.hp.cell 0;have x1:=M7.out.B.H.hs.hp.cell 1;have xl:=M7.out.B.H.hs.hp.lt
    simp only [List.getElem?_cons_zero,List.getElem?_cons_succ] at x0 x1
    obtain ⟨ro1,rc1,er1,-,-,-⟩:=M7.out.B.H.hs.hr.rd
    obtain ⟨wo1,wc1,ew1,-,-,-⟩:=M7.out.B.H.hs.hw.rd
    rw [er1] at x0
    rw [ew1] at x1
    clear er1 ew1
    go_wp2_with fail
    refine wp_region_ro (.free 0 (.free 1 (.free 2 (.free 11 (.free 12 (.free 13 (.pure 3 (.free 4 (.free 5 (.pure 6 (.free 7 (.free 8 (.pure 9 (.free 10 (.free 22 (.pure 14 (.free 15 (.free 16 (.pure 17 (.free 18 (.free 19 (.pure 20 (.free 21 (.free 23 (.fin))))))))))))))))))))))))) [] (fun w'=>w'.cell? ⟨p,0,none⟩=some (.pointer (some ⟨h1.a.p,0,none⟩))∧w'.cell? ⟨h1.a.p,2,none⟩=some (.pointer (some ⟨h1.a.ps,0,none⟩))∧w'.cell? ⟨h1.a.ps,0,none⟩=some (.slice ro1 O1.rg.length rc1)∧w'.cell? ⟨h1.a.ps,1,none⟩=some (.slice wo1 O1.wt.length wc1)) (by kernel_rfl) (by kernel_rfl) ⟨c0,q2,x0,x1⟩ ?_
    iterate 24 first | (refine wpRO_free rfl rfl _ (fun w'=>by go_simp;exact Gives.mk _ _) (fun K hK=>?_);go_simp;refine hK _ ?_;clear hK K) | (refine wpRO_skipF rfl rfl (fun K hK=>?_);go_simp;refine hK _ ?_;clear hK K) | (refine wpRO_pure rfl rfl _ (fun w' hG=>by obtain ⟨c0,q2,x0,x1⟩:=hG;exact gives_agg2 rfl (by decide +kernel) rfl (by assumption) (by assumption)) (fun K hK=>?_);go_simp;refine hK _ ?_;clear hK K) | (refine wpRO_pure rfl rfl _ (fun w' hG=>by obtain ⟨c0,q2,x0,x1⟩:=hG;go_simp;exact Gives.mk _ _) (fun K hK=>?_);go_simp;refine hK _ ?_;clear hK K) | (refine wpRO_skip rfl rfl (fun K hK=>?_);go_simp;refine hK _ ?_;clear hK K)
    refine wpRO_fin ?_
    have kd:=(Kz w7).drew
    have M8:=Hz (M7.out.same kd);have RF8:=Hz (RF7.out.same kd);have TR8:=Hz (TR7.out.keep kd (fun _ _ _ h=>h))
    clear kd c0 pl q2 ql x0 x1 xl M7 RF7 TR7 d0 d1 d2 d3 d4 d5 hgl
    generalize w7.drew=w8 at *
    obtain ⟨d0,d1,d2,d3,d4,d5⟩:=HCL.out _ M8.out.K
    have hgl:=d0
    obtain ⟨c0,pl⟩:=M8.out.pc
    have hdo:=M8.out.doR_c R.out ⟨d,r,a,b,i,z⟩
    have hsm:=Wo.do_same (O:=O1) (x:=⟨d,r,a,b,i,z⟩)
    obtain ⟨-,ψ,hR2⟩:=R.out.do ⟨d,r,a,b,i,z⟩
    unfold HDoRet at hdo
    obtain ⟨⟨c,P⟩,hP⟩:∃ t,O1.do ⟨d,r,a,b,i,z⟩=t:=⟨_,rfl⟩
    rw [hP] at hdo hsm hR2
    dsimp only at hdo hsm hR2
    have HDO:=Hz hdo;have HSM:=Hz hsm;have R2:=Hz hR2
    clear hdo hsm hR2 hP hgl
    go_wp2_with (refine wpList_agg rfl 23 (.tmp 97) rfl [.int .i64 d, .int .i64 r, .int .i64 a, .int .i64 b, .int .i64 i, .int .i64 z] (by kernel_rfl) gs (os+k*6) rfl (rangeAt_cons d0 (rangeAt_cons d1 (rangeAt_cons d2 (rangeAt_cons d3 (rangeAt_cons d4 (rangeAt_cons d5 rangeAt_nil)))))) ?_)
    refine HDO.out.mono ?_
    rintro e w9 ⟨rfl,ht⟩
    obtain ⟨h5,M9',k9⟩:=M8.out.toK ht
    have M9:=Hz M9';have K9:=Hz k9
    clear ht M9' k9 d0 d1 d2 d3 d4 d5 HDO c0 pl
    by_cases hc0:c=0
    ·subst hc0
     have HIK:=Hz (show RInv w w9 p from ⟨h5,_,M9.out,_,_,R2.out⟩)
     clear M9 K9 M8 RF8 TR8 HSM
     go_wp2_with fail
     refine ⟨⟨by kernel_rfl,?rel⟩,?measure⟩
     case rel=>exact ⟨k+1,hlt,by go_num,HIK.out⟩
     case measure=>exact meas_lt (by go_num) (by first | rfl | exact E9.out) hlt
    obtain rfl:=HSM.out hc0
    have hcb:(c == 0)=false:=by simpa using hc0
    have TR9:=Hz (TR8.out.keep K9.out (fun a ha hl hn=>by have:=TN.out a ha;have:=OL.out _ hn;omega))
    have F9:=Hz (RF8.out.keep K9.out (fun j hj=>OL.out j hj) M9.out.K)
    have LNV:=Hz RF8.out.ln
    clear RF8 TR8 M8 K9 HSM hc0 R
    obtain ⟨c0,pl⟩:=M9.out.pc
    have q0:=M9.out.B.H.ptrs.1;have ql:=M9.out.B.H.hp.lt
    go_wp2_with fail
    refine (Used_c _ M9.out.B.H.ha).mono ?_
    rintro e w10 ⟨rfl,hk⟩
    have M10:=Hz (M9.out.same hk)
    have TR10:=Hz (TR9.out.keep hk (fun _ _ _ h=>h))
    have F10:=Hz (show Rd w10 ao (P.ar.ws.map (Value.int .i64))∧Blk w10 vb _ 47∧ViewV w10 lv _ P.view from ⟨F9.out.1.keep hk (fun _ _ _ h=>h),hk.blk F9.out.2.1 (fun h=>h),F9.out.2.2.keep hk (fun _ _ _ h=>h)⟩)
    clear hk c0 pl q0 ql M9 TR9 F9
    rw [HYA.out,HGA.out]
    obtain ⟨c0,pl⟩:=M10.out.pc
    have q0:=M10.out.B.H.ptrs.1;have q2:=M10.out.B.H.ptrs.2.2.1;have ql:=M10.out.B.H.hp.lt
    have x0:=M10.out.B.H.hs.hp.cell 0;have x1:=M10.out.B.H.hs.hp.cell 1;have xl:=M10.out.B.H.hs.hp.lt
    simp only [List.getElem?_cons_zero,List.getElem?_cons_succ] at x0 x1
    obtain ⟨ro2,rc2,er2,-,-,-⟩:=M10.out.B.H.hs.hr.rd
    obtain ⟨wo2,wc2,ew2,-,-,-⟩:=M10.out.B.H.hs.hw.rd
    rw [er2] at x0
    rw [ew2] at x1
    clear er2 ew2
    obtain ⟨nr,hnr⟩:∃ y,P.rg.length=y:=⟨_,rfl⟩
    obtain ⟨nw,hnw⟩:∃ y,P.wt.length=y:=⟨_,rfl⟩
    rw [hnr] at x0
    rw [hnw] at x1
    rw [hnr,hnw]
    clear hnr hnw
    have q3:=M10.out.B.H.hp.cell 3
    simp only [List.getElem?_cons_zero,List.getElem?_cons_succ] at q3
    obtain ⟨go2,gc2,ero,grd,-,-⟩:=M10.out.B.H.hr.rd
    rw [ero,HRL.out] at q3
    have GRD:=Hz grd
    clear ero grd
    have v0:=F10.out.2.1.cell 0;have v1:=F10.out.2.1.cell 1;have vl:=F10.out.2.1.lt
    simp only [List.getElem?_cons_zero,List.getElem?_cons_succ] at v0 v1
    have e1:(ya != ya)=false:=by simp
    have e2:(ga != ga)=false:=by simp
    have e3:((nr:Int) != (nr:Int))=false:=by simp
    have e4:((nw:Int) != (nw:Int))=false:=by simp
    go_upto_region 18 with (fail)
    refine wp_cut_over (fun i=>Nat.blt 111 i) (fun s wx=>s 184=.bool false∧Keeps (fun _=>False) w10 wx) ?_ ?_
    ·intro K hK
     have HB:=Hz (show ∀ w',Keeps (fun _=>False) w10 w'→w'.cell? ⟨p,0,none⟩=some (.pointer (some ⟨h5.a.p,0,none⟩))∧w'.cell? ⟨h5.a.p,0,none⟩=some (.pointer (some ⟨h5.a.pa,0,none⟩))∧w'.cell? ⟨h5.a.p,2,none⟩=some (.pointer (some ⟨h5.a.ps,0,none⟩))∧w'.cell? ⟨h5.a.ps,0,none⟩=some (.slice ro2 nr rc2)∧w'.cell? ⟨h5.a.ps,1,none⟩=some (.slice wo2 nw wc2)∧w'.cell? ⟨h5.a.p,3,none⟩=some (.slice go2 rl gc2)∧w'.cell? ⟨vb,0,none⟩=some (.slice ro P.view.1.length rc)∧w'.cell? ⟨vb,1,none⟩=some (.slice no P.view.2.length nc) from fun w' kk=>by
      have hcc:∀ (g q:Nat),g<w10.heap.size→w'.cell? ⟨g,q,none⟩=w10.cell? ⟨g,q,none⟩:=fun g q hg=>World.cell?_of_block (w:=w10) (a:=⟨g,q,none⟩) (kk.block g hg (fun h=>h))
      exact ⟨(hcc _ _ pl).trans c0,(hcc _ _ ql).trans q0,(hcc _ _ ql).trans q2,(hcc _ _ xl).trans x0,(hcc _ _ xl).trans x1,(hcc _ _ ql).trans q3,(hcc _ _ vl).trans v0,(hcc _ _ vl).trans v1⟩)
     have kd:=(Kz w10).drew
     go_wp2_with fail
     refine wp_region_rob (.free 0 (.free 1 (.free 2 (.free 3 (.free 4 (.free 5 (.free 6 (.free 7 (.free 8 (.free 9 (.free 10 (.free 11 (.free 12 (.base 13 (.free 14 (.free 15 (.base 16 (.free 17 (.free 18 (.base 19 (.free 20 (.free 21 (.free 22 (.free 23 (.free 24 (.free 25 (.free 26 (.free 27 (.base 28 (.free 29 (.free 30 (.base 31 (.free 32 (.free 33 (.base 34 (.free 35 (.free 36 (.free 37 (.free 38 (.free 39 (.free 40 (.free 41 (.free 42 (.base 43 (.free 44 (.free 45 (.base 46 (.run 47 (.run 48 (.free 49 (.free 50 (.free 51 (.free 52 (.free 53 (.free 54 (.free 55 (.base 56 (.free 57 (.free 58 (.base 59 (.run 60 (.free 61 (.free 62 (.free 63 (.free 65 (.free 66 (.free 67 (.base 64 (.base 68 (.run 69 (.run 70 (.free 71 (.free 72 .fin))))))))))))))))))))))))))))))))))))))))))))))))))))))))))))))))))))))))) [] (fun w'=>w'.cell? ⟨p,0,none⟩=some (.pointer (some ⟨h5.a.p,0,none⟩))∧w'.cell? ⟨h5.a.p,0,none⟩=some (.pointer (some ⟨h5.a.pa,0,none⟩))∧w'.cell? ⟨h5.a.p,2,none⟩=some (.pointer (some ⟨h5.a.ps,0,none⟩))∧w'.cell? ⟨h5.a.ps,0,none⟩=some (.slice ro2 nr rc2)∧w'.cell? ⟨h5.a.ps,1,none⟩=some (.slice wo2 nw wc2)∧w'.cell? ⟨h5.a.p,3,none⟩=some (.slice go2 rl gc2)∧w'.cell? ⟨vb,0,none⟩=some (.slice ro P.view.1.length rc)∧w'.cell? ⟨vb,1,none⟩=some (.slice no P.view.2.length nc)) (fun _=>True) (by kernel_rfl) (by kernel_rfl) (HB.out _ kd) trivial ?_
     iterate 47 first | (refine wpRO_free rfl rfl _ (fun w'=>by go_simp;exact Gives.mk _ _) (fun K hK=>?_);go_simp;refine hK _ ?_;clear hK K) | (refine wpRO_skipF rfl rfl (fun K hK=>?_);go_simp;refine hK _ ?_;clear hK K) | (refine wpRO_base rfl rfl _ (fun w' hG=>by obtain ⟨c0,q0,q2,x0,x1,q3,v0,v1⟩:=hG;go_simp;exact Gives.mk _ _) (fun K hK=>?_);go_simp;refine hK _ ?_;clear hK K) | (refine wpRO_base rfl rfl _ (fun w' hG=>by obtain ⟨c0,q0,q2,x0,x1,q3,v0,v1⟩:=hG;exact gives_agg2 rfl (by decide +kernel) rfl (by assumption) (by assumption)) (fun K hK=>?_);go_simp;refine hK _ ?_;clear hK K) | (refine wpRO_skipB rfl rfl (fun K hK=>?_);go_simp;refine hK _ ?_;clear hK K)
     refine wpRO_runB rfl rfl (fun K hK=>?_);unfold gRun;go_simp
     refine (Words_c _ (M10.out.same kd).B.H.ha).mono ?_
     rintro e w11 ⟨xo,xc,rfl,hs,hk,-⟩
     have hk:=kd.trans hk
     have K11:=Hz hk
     have M11:=Hz (M10.out.same hk)
     obtain ⟨_,_,e',wrd,-,-⟩:=hs.rd
     cases e'
     have WR:=Hz wrd
     refine hK _ _ (fun _=>HB.out _ K11.out) (fun h=>h) ?_
     clear hK K hs hk kd wrd c0 pl q0 q2 q3 ql x0 x1 xl v0 v1 vl
     refine wpRO_runB rfl rfl (fun K hK=>?_);unfold gRun;go_simp
     have hw4:=M11.out.B.H.ok.ha.h4
     refine (SameLongs_yes _ _ _ _ _ _ (F10.out.1.keep K11.out (fun _ _ _ h=>h)) WR.out (by omega)).mono ?_
     rintro e w12 ⟨rfl,hk⟩
     have K12:=Hz (K11.out.trans hk)
     refine hK _ _ (fun _=>HB.out _ K12.out) (fun h=>h) ?_
     clear hK K hk M11 WR hw4 K11
     iterate 11 first | (refine wpRO_free rfl rfl _ (fun w'=>by go_simp;exact Gives.mk _ _) (fun K hK=>?_);go_simp;refine hK _ ?_;clear hK K) | (refine wpRO_skipF rfl rfl (fun K hK=>?_);go_simp;refine hK _ ?_;clear hK K) | (refine wpRO_base rfl rfl _ (fun w' hG=>by obtain ⟨c0,q0,q2,x0,x1,q3,v0,v1⟩:=hG;go_simp;exact Gives.mk _ _) (fun K hK=>?_);go_simp;refine hK _ ?_;clear hK K) | (refine wpRO_base rfl rfl _ (fun w' hG=>by obtain ⟨c0,q0,q2,x0,x1,q3,v0,v1⟩:=hG;exact gives_agg2 rfl (by decide +kernel) rfl (by assumption) (by assumption)) (fun K hK=>?_);go_simp;refine hK _ ?_;clear hK K) | (refine wpRO_skipB rfl rfl (fun K hK=>?_);go_simp;refine hK _ ?_;clear hK K)
     have hsl:=SameLongs_yes tl go2 tc gc2 P.rt w12 (TR10.out.keep K12.out (fun _ _ _ h=>h)) (GRD.out.keep K12.out (fun _ _ _ h=>h)) (by rw [HRL.out];omega)
     rw [HRL.out] at hsl
     have HSL:=Hz hsl
     clear hsl
     refine wpRO_runB rfl rfl (fun K hK=>?_);unfold gRun;go_simp
     refine HSL.out.mono ?_
     rintro e w13 ⟨rfl,hk⟩
     have K13:=Hz (K12.out.trans hk)
     refine hK _ _ (fun _=>HB.out _ K13.out) (fun h=>h) ?_
     clear hK K hk HSL K12
     iterate 8 first | (refine wpRO_free rfl rfl _ (fun w'=>by go_simp;exact Gives.mk _ _) (fun K hK=>?_);go_simp;refine hK _ ?_;clear hK K) | (refine wpRO_skipF rfl rfl (fun K hK=>?_);go_simp;refine hK _ ?_;clear hK K) | (refine wpRO_base rfl rfl _ (fun w' hG=>by obtain ⟨c0,q0,q2,x0,x1,q3,v0,v1⟩:=hG;go_simp;exact Gives.mk _ _) (fun K hK=>?_);go_simp;refine hK _ ?_;clear hK K) | (refine wpRO_base rfl rfl _ (fun w' hG=>by obtain ⟨c0,q0,q2,x0,x1,q3,v0,v1⟩:=hG;exact gives_agg2 rfl (by decide +kernel) rfl (by assumption) (by assumption)) (fun K hK=>?_);go_simp;refine hK _ ?_;clear hK K) | (refine wpRO_skipB rfl rfl (fun K hK=>?_);go_simp;refine hK _ ?_;clear hK K)
     refine wpRO_runB rfl rfl (fun K hK=>?_);unfold gRun;go_simp
     refine (View_c _ (M10.out.same K13.out).B.H).mono ?_
     rintro e w14 ⟨v14,rfl,hv,hk⟩
     have K14:=Hz (K13.out.trans hk)
     have U14:=Hz hv
     refine hK _ _ (fun _=>HB.out _ K14.out) (fun h=>h) ?_
     clear hK K hv hk K13
     refine wpRO_runB rfl rfl (fun K hK=>?_);unfold gRun;go_simp
     refine (SameView_yes _ _ P.view _ ((F10.out.2.2.keep K14.out (fun _ _ _ h=>h)).rep R2.out) (U14.out.rep R2.out)).mono ?_
     rintro e w15 ⟨rfl,hk⟩
     have K15:=Hz (K14.out.trans hk)
     refine hK _ _ (fun _=>HB.out _ K15.out) (fun h=>h) ?_
     clear hK K hk U14 K14
     iterate 2 first | (refine wpRO_free rfl rfl _ (fun w'=>by go_simp;exact Gives.mk _ _) (fun K hK=>?_);go_simp;refine hK _ ?_;clear hK K) | (refine wpRO_skipF rfl rfl (fun K hK=>?_);go_simp;refine hK _ ?_;clear hK K)
     refine wpRO_fin ?_
     go_wp2_with fail
     refine ⟨by kernel_rfl,?_⟩
     exact ⟨rfl,K15.out⟩
    ·intro u2 wx2 hrel2
     obtain ⟨e184,hk2⟩:=hrel2
     have e184:u2 184=.bool false:=e184
     have HIK:=Hz (show RInv w wx2 p from ⟨h5,_,M10.out.same hk2,_,_,R2.out⟩)
     clear hk2
     simp (maxSteps:=2000000) only [overA,overL,List.toList_toArray,Nat.blt,Nat.beq,Nat.ble,Nat.reduceAdd,Bool.or_false,Bool.false_or,Bool.or_true,Bool.true_or,Bool.and_true,Bool.true_and,Bool.and_false,Bool.false_and,cond_true,cond_false]
     rw [e184]
     clear e184
     go_wp2_with fail
     refine ⟨⟨by kernel_rfl,?rel⟩,?measure⟩
     case rel=>exact ⟨k+1,hlt,by go_num,HIK.out⟩
     case measure=>exact meas_lt (by go_num) (by first | rfl | exact E9.out) hlt
  ·obtain rfl:k=m:=by omega
   obtain ⟨h1,O1,M1,-⟩:=HI.out
   have K1:=Hz M1.K
   clear HI M1
   go_wp2_with fail
   go_ret
   exact ⟨rfl,K1.out⟩
theorem HeapRefuses_walk (n o:Int) (lo:Option Addr) (lc m:Nat) (xs:List Int) (w:World) (_:R64 n) (_:R64 o) (h0:Rd w lo (xs.map (Value.int .i64))) (hx:xs.length=m*6) (_:m≤maxLen) (hb:∀ x ∈ xs,R64 x) :
  Calls Try.prog 4 #[.int .i64 n, .int .i64 o, .slice lo m lc] w fun e w'=>e=.returned (.bool true)∧Below w.heap.size w w':=
 (HeapRefuses_raw n o lo lc m xs w h0 hx hb).mono fun e w' ⟨h1,h2⟩=>⟨h1,h2.below (fun _ _ h=>h)⟩
end
end
end Go.Proofs.Ytjifdalflepcoac
