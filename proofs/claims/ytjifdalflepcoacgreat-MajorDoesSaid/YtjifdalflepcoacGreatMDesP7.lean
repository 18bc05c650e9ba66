/-
  Parts of the proof, merged: what the functions do, and plain laws.
-/
import Derived.Test.YtjifdalflepcoacGreatMDesP6
import Derived.Test.YtjifdalflepcoacGreatMDesP2
import Derived.Test.YtjifdalflepcoacGreatMDesP5
set_option maxHeartbeats 16000000
set_option maxRecDepth 100000
set_option linter.unusedVariables false
set_option linter.unusedSimpArgs false
namespace Go.Proofs.YtjifdalflepcoacGreat
section
open Go.RowKit
section
variable {w w':World} {h:WH} {O:Wo}
def MajorRet (w:World) (h:WH) (O:Wo) (e:Ending) (w':World):Prop:=e=.returned (.int .i64 (jCut O).1)∧WoodTo w h w' (jCut O).2
theorem majorCut_c {W:Wd} {φ:Int→Int} (R:Rep O W φ) (H:WoodAt w h O) :
  Calls Tryz.prog 18 #[.pointer (some ⟨h.p,0,none⟩)] w (MajorRet w h O):=by
 have HH:=Hz H
 have hok:=H.ok
 obtain ⟨p0,p1,p2,p3⟩:=H.ptrs
 have pl:=H.hp.lt
 have o4:=hok.ha.h4
 have HR:=Hz R
 clear H R
 have HOK:=Hz hok
 clear hok
 go_enter Tryz.func18,Tryz.ntmps18
 go_wp2_with fail
 refine (Words_c w HH.out.ha).mono ?_
 rintro e w1 ⟨ao,ac,rfl,-,hk,-⟩
 have H1:=Hz (HH.out.keep hk (fun _ _ h=>h));have K1:=Hz hk
 clear p0 p1 p2 p3 pl hk
 generalize hn:O.ar.ws.length=n at *
 have HN:=Hz hn
 clear hn
 go_upto_region 2 with fail
 refine wp_cut_over (fun i=>Nat.blt 37 i && Nat.blt i 45 || Nat.beq i 4) (fun s' wx=>CutMade w1 h.p n wx (s' 4)) ?_ ?_
 ·intro K' hK'
  obtain ⟨ib,hi,hz0,hz1,hz2⟩:=info_parts info_bool
  have hmb:=fun wx=>run_make_one (P:=Tryz.prog) wx 122 4 ib (.bool false) Tryz.underlying122 hi hz0 rfl hz1 n (by rw [hz2];omega) (by omega)
  obtain ⟨ii,hi',hz0',hz1',hz2'⟩:=info_parts info_int8'
  have hmi:=fun wx=>run_make_one (P:=Tryz.prog) wx 83 3 ii (.int .i64 0) Tryz.underlying83 hi' hz0' rfl hz1' n (by rw [hz2'];omega) (by omega)
  clear hi hz0 hz1 hz2 hi' hz0' hz1' hz2'
  have I0:=Hz (CutIn.start w1 h.p n)
  refine wp_region_ro3 (.free 0 (.free 1 (.free 3 (.three 2 (.two 4 (.free 5 (.two 6 (.run 7 (.run 8 .fin)) 7 (.run 6 (.run 8 .fin)))) 7 (.run 4 (.free 5 (.run 6 (.run 8 .fin))))) 4 (.two 2 (.free 5 (.two 6 (.run 7 (.run 8 .fin)) 7 (.run 6 (.run 8 .fin)))) 7 (.run 2 (.free 5 (.run 6 (.run 8 .fin))))) 7 (.two 2 (.run 4 (.free 5 (.run 6 (.run 8 .fin)))) 4 (.run 2 (.free 5 (.run 6 (.run 8 .fin))))))))) (by kernel_rfl) (by kernel_rfl) ?_
  iterate 3 (refine wpRO3_free rfl rfl _ (fun w'=>by go_simp;exact Gives.mk _ _) (fun K hK=>?_);go_simp;refine hK _ ?_;clear hK K)
  refine wpRO3_three rfl rfl rfl rfl rfl rfl (fun K hK=>?_) (fun K hK=>?_) (fun K hK=>?_)
  ·unfold gRun;go_simp
   refine hK _ _ ?_
   clear hK K
   have I1:=Hz (show CutIn w1 h.p n ((w1.alloc (.cells (Array.replicate n (.bool false)) 4)).drew) (some w1.heap.size) none none none from I0.out.live)
   generalize (w1.alloc (.cells (Array.replicate n (.bool false)) 4)).drew=wx1 at *
   generalize w1.heap.size=lb at *
   refine wpRO_two rfl rfl rfl rfl (fun K hK=>?_) (fun K hK=>?_)
   ·unfold gRun;go_simp
    refine hK _ _ (fun h=>h) (fun _ h=>h) ?_
    clear hK K
    have I2:=Hz (show CutIn w1 h.p n (wx1.alloc (.cells (Array.replicate n (.int .i64 0)) 3)) (some lb) (some wx1.heap.size) none none from I1.out.to)
    generalize wx1.alloc (.cells (Array.replicate n (.int .i64 0)) 3)=wx2 at *
    generalize wx1.heap.size=tb at *
    refine wpRO_free rfl rfl _ (fun w'=>by go_simp;exact Gives.mk _ _) (fun K hK=>?_);go_simp;refine hK _ ?_;clear hK K
    refine wpRO_two rfl rfl rfl rfl (fun K hK=>?_) (fun K hK=>?_)
    ·unfold gRun;go_simp
     refine hK _ _ (fun h=>h) (fun _ h=>h) ?_
     clear hK K
     have I3:=Hz (show CutIn w1 h.p n (wx2.alloc (.cells #[.pointer (some ⟨h.p,0,none⟩), .slice (some ⟨lb,0,none⟩) n n, .slice (some ⟨tb,0,none⟩) n n, .slice none 0 0, .slice none 0 0] 124)) (some lb) (some tb) (some wx2.heap.size) none from I2.out.cut)
     generalize wx2.alloc (.cells #[.pointer (some ⟨h.p,0,none⟩), .slice (some ⟨lb,0,none⟩) n n, .slice (some ⟨tb,0,none⟩) n n, .slice none 0 0, .slice none 0 0] 124)=wx3 at *
     generalize wx2.heap.size=pc at *
     refine wpRO_run rfl rfl (fun K hK=>?_);unfold gRun;go_simp
     refine hK _ _ (fun h=>h) ?_
     clear hK K
     have I4:=Hz (show CutIn w1 h.p n (wx3.alloc (.cells #[.pointer none] 121)) (some lb) (some tb) (some pc) (some wx3.heap.size) from I3.out.var)
     generalize wx3.alloc (.cells #[.pointer none] 121)=wx4 at *
     generalize wx3.heap.size=vb at *
     obtain ⟨vbl,-⟩:=I4.out.v vb rfl
     have v0:=vbl.cell 0;have vl:=vbl.lt;have vf:=vbl.free 0
     simp only [List.getElem?_cons_zero] at v0
     clear vbl
     refine wpRO_run rfl rfl (fun K hK=>?_);unfold gRun;go_simp
     refine hK _ _ (fun h=>h) ?_
     clear hK K
     refine wpRO_fin ?_
     have IM:=Hz I4.out.made
     clear v0 vl vf
     go_wp2_with fail
     refine ⟨by kernel_rfl,?_⟩
     exact IM.out
    ·unfold gRun;go_simp
     refine hK _ _ (fun h=>h) (fun _ h=>h) ?_
     clear hK K
     have I3:=Hz (show CutIn w1 h.p n (wx2.alloc (.cells #[.pointer none] 121)) (some lb) (some tb) none (some wx2.heap.size) from I2.out.var)
     generalize wx2.alloc (.cells #[.pointer none] 121)=wx3 at *
     generalize wx2.heap.size=vb at *
     refine wpRO_run rfl rfl (fun K hK=>?_);unfold gRun;go_simp
     refine hK _ _ (fun h=>h) ?_
     clear hK K
     have I4:=Hz (show CutIn w1 h.p n (wx3.alloc (.cells #[.pointer (some ⟨h.p,0,none⟩), .slice (some ⟨lb,0,none⟩) n n, .slice (some ⟨tb,0,none⟩) n n, .slice none 0 0, .slice none 0 0] 124)) (some lb) (some tb) (some wx3.heap.size) (some vb) from I3.out.cut)
     generalize wx3.alloc (.cells #[.pointer (some ⟨h.p,0,none⟩), .slice (some ⟨lb,0,none⟩) n n, .slice (some ⟨tb,0,none⟩) n n, .slice none 0 0, .slice none 0 0] 124)=wx4 at *
     generalize wx3.heap.size=pc at *
     obtain ⟨vbl,-⟩:=I4.out.v vb rfl
     have v0:=vbl.cell 0;have vl:=vbl.lt;have vf:=vbl.free 0
     simp only [List.getElem?_cons_zero] at v0
     clear vbl
     refine wpRO_run rfl rfl (fun K hK=>?_);unfold gRun;go_simp
     refine hK _ _ (fun h=>h) ?_
     clear hK K
     refine wpRO_fin ?_
     have IM:=Hz I4.out.made
     clear v0 vl vf
     go_wp2_with fail
     refine ⟨by kernel_rfl,?_⟩
     exact IM.out
   ·unfold gRun;go_simp
    refine hK _ _ (fun h=>h) (fun _ h=>h) ?_
    clear hK K
    have I2:=Hz (show CutIn w1 h.p n (wx1.alloc (.cells #[.pointer none] 121)) (some lb) none none (some wx1.heap.size) from I1.out.var)
    generalize wx1.alloc (.cells #[.pointer none] 121)=wx2 at *
    generalize wx1.heap.size=vb at *
    refine wpRO_run rfl rfl (fun K hK=>?_);unfold gRun;go_simp
    refine hK _ _ (fun h=>h) ?_
    clear hK K
    have I3:=Hz (show CutIn w1 h.p n (wx2.alloc (.cells (Array.replicate n (.int .i64 0)) 3)) (some lb) (some wx2.heap.size) none (some vb) from I2.out.to)
    generalize wx2.alloc (.cells (Array.replicate n (.int .i64 0)) 3)=wx3 at *
    generalize wx2.heap.size=tb at *
    refine wpRO_free rfl rfl _ (fun w'=>by go_simp;exact Gives.mk _ _) (fun K hK=>?_);go_simp;refine hK _ ?_;clear hK K
    refine wpRO_run rfl rfl (fun K hK=>?_);unfold gRun;go_simp
    refine hK _ _ (fun h=>h) ?_
    clear hK K
    have I4:=Hz (show CutIn w1 h.p n (wx3.alloc (.cells #[.pointer (some ⟨h.p,0,none⟩), .slice (some ⟨lb,0,none⟩) n n, .slice (some ⟨tb,0,none⟩) n n, .slice none 0 0, .slice none 0 0] 124)) (some lb) (some tb) (some wx3.heap.size) (some vb) from I3.out.cut)
    generalize wx3.alloc (.cells #[.pointer (some ⟨h.p,0,none⟩), .slice (some ⟨lb,0,none⟩) n n, .slice (some ⟨tb,0,none⟩) n n, .slice none 0 0, .slice none 0 0] 124)=wx4 at *
    generalize wx3.heap.size=pc at *
    obtain ⟨vbl,-⟩:=I4.out.v vb rfl
    have v0:=vbl.cell 0;have vl:=vbl.lt;have vf:=vbl.free 0
    simp only [List.getElem?_cons_zero] at v0
    clear vbl
    refine wpRO_run rfl rfl (fun K hK=>?_);unfold gRun;go_simp
    refine hK _ _ (fun h=>h) ?_
    clear hK K
    refine wpRO_fin ?_
    have IM:=Hz I4.out.made
    clear v0 vl vf
    go_wp2_with fail
    refine ⟨by kernel_rfl,?_⟩
    exact IM.out
  ·unfold gRun;go_simp
   refine hK _ _ ?_
   clear hK K
   have I1:=Hz (show CutIn w1 h.p n ((w1.alloc (.cells (Array.replicate n (.int .i64 0)) 3)).drew) none (some w1.heap.size) none none from I0.out.to)
   generalize (w1.alloc (.cells (Array.replicate n (.int .i64 0)) 3)).drew=wx1 at *
   generalize w1.heap.size=tb at *
   refine wpRO_two rfl rfl rfl rfl (fun K hK=>?_) (fun K hK=>?_)
   ·unfold gRun;go_simp
    refine hK _ _ (fun h=>h) (fun _ h=>h) ?_
    clear hK K
    have I2:=Hz (show CutIn w1 h.p n (wx1.alloc (.cells (Array.replicate n (.bool false)) 4)) (some wx1.heap.size) (some tb) none none from I1.out.live)
    generalize wx1.alloc (.cells (Array.replicate n (.bool false)) 4)=wx2 at *
    generalize wx1.heap.size=lb at *
    refine wpRO_free rfl rfl _ (fun w'=>by go_simp;exact Gives.mk _ _) (fun K hK=>?_);go_simp;refine hK _ ?_;clear hK K
    refine wpRO_two rfl rfl rfl rfl (fun K hK=>?_) (fun K hK=>?_)
    ·unfold gRun;go_simp
     refine hK _ _ (fun h=>h) (fun _ h=>h) ?_
     clear hK K
     have I3:=Hz (show CutIn w1 h.p n (wx2.alloc (.cells #[.pointer (some ⟨h.p,0,none⟩), .slice (some ⟨lb,0,none⟩) n n, .slice (some ⟨tb,0,none⟩) n n, .slice none 0 0, .slice none 0 0] 124)) (some lb) (some tb) (some wx2.heap.size) none from I2.out.cut)
     generalize wx2.alloc (.cells #[.pointer (some ⟨h.p,0,none⟩), .slice (some ⟨lb,0,none⟩) n n, .slice (some ⟨tb,0,none⟩) n n, .slice none 0 0, .slice none 0 0] 124)=wx3 at *
     generalize wx2.heap.size=pc at *
     refine wpRO_run rfl rfl (fun K hK=>?_);unfold gRun;go_simp
     refine hK _ _ (fun h=>h) ?_
     clear hK K
     have I4:=Hz (show CutIn w1 h.p n (wx3.alloc (.cells #[.pointer none] 121)) (some lb) (some tb) (some pc) (some wx3.heap.size) from I3.out.var)
     generalize wx3.alloc (.cells #[.pointer none] 121)=wx4 at *
     generalize wx3.heap.size=vb at *
     obtain ⟨vbl,-⟩:=I4.out.v vb rfl
     have v0:=vbl.cell 0;have vl:=vbl.lt;have vf:=vbl.free 0
     simp only [List.getElem?_cons_zero] at v0
     clear vbl
     refine wpRO_run rfl rfl (fun K hK=>?_);unfold gRun;go_simp
     refine hK _ _ (fun h=>h) ?_
     clear hK K
     refine wpRO_fin ?_
     have IM:=Hz I4.out.made
     clear v0 vl vf
     go_wp2_with fail
     refine ⟨by kernel_rfl,?_⟩
     exact IM.out
    ·unfold gRun;go_simp
     refine hK _ _ (fun h=>h) (fun _ h=>h) ?_
     clear hK K
     have I3:=Hz (show CutIn w1 h.p n (wx2.alloc (.cells #[.pointer none] 121)) (some lb) (some tb) none (some wx2.heap.size) from I2.out.var)
     generalize wx2.alloc (.cells #[.pointer none] 121)=wx3 at *
     generalize wx2.heap.size=vb at *
     refine wpRO_run rfl rfl (fun K hK=>?_);unfold gRun;go_simp
     refine hK _ _ (fun h=>h) ?_
     clear hK K
     have I4:=Hz (show CutIn w1 h.p n (wx3.alloc (.cells #[.pointer (some ⟨h.p,0,none⟩), .slice (some ⟨lb,0,none⟩) n n, .slice (some ⟨tb,0,none⟩) n n, .slice none 0 0, .slice none 0 0] 124)) (some lb) (some tb) (some wx3.heap.size) (some vb) from I3.out.cut)
     generalize wx3.alloc (.cells #[.pointer (some ⟨h.p,0,none⟩), .slice (some ⟨lb,0,none⟩) n n, .slice (some ⟨tb,0,none⟩) n n, .slice none 0 0, .slice none 0 0] 124)=wx4 at *
     generalize wx3.heap.size=pc at *
     obtain ⟨vbl,-⟩:=I4.out.v vb rfl
     have v0:=vbl.cell 0;have vl:=vbl.lt;have vf:=vbl.free 0
     simp only [List.getElem?_cons_zero] at v0
     clear vbl
     refine wpRO_run rfl rfl (fun K hK=>?_);unfold gRun;go_simp
     refine hK _ _ (fun h=>h) ?_
     clear hK K
     refine wpRO_fin ?_
     have IM:=Hz I4.out.made
     clear v0 vl vf
     go_wp2_with fail
     refine ⟨by kernel_rfl,?_⟩
     exact IM.out
   ·unfold gRun;go_simp
    refine hK _ _ (fun h=>h) (fun _ h=>h) ?_
    clear hK K
    have I2:=Hz (show CutIn w1 h.p n (wx1.alloc (.cells #[.pointer none] 121)) none (some tb) none (some wx1.heap.size) from I1.out.var)
    generalize wx1.alloc (.cells #[.pointer none] 121)=wx2 at *
    generalize wx1.heap.size=vb at *
    refine wpRO_run rfl rfl (fun K hK=>?_);unfold gRun;go_simp
    refine hK _ _ (fun h=>h) ?_
    clear hK K
    have I3:=Hz (show CutIn w1 h.p n (wx2.alloc (.cells (Array.replicate n (.bool false)) 4)) (some wx2.heap.size) (some tb) none (some vb) from I2.out.live)
    generalize wx2.alloc (.cells (Array.replicate n (.bool false)) 4)=wx3 at *
    generalize wx2.heap.size=lb at *
    refine wpRO_free rfl rfl _ (fun w'=>by go_simp;exact Gives.mk _ _) (fun K hK=>?_);go_simp;refine hK _ ?_;clear hK K
    refine wpRO_run rfl rfl (fun K hK=>?_);unfold gRun;go_simp
    refine hK _ _ (fun h=>h) ?_
    clear hK K
    have I4:=Hz (show CutIn w1 h.p n (wx3.alloc (.cells #[.pointer (some ⟨h.p,0,none⟩), .slice (some ⟨lb,0,none⟩) n n, .slice (some ⟨tb,0,none⟩) n n, .slice none 0 0, .slice none 0 0] 124)) (some lb) (some tb) (some wx3.heap.size) (some vb) from I3.out.cut)
    generalize wx3.alloc (.cells #[.pointer (some ⟨h.p,0,none⟩), .slice (some ⟨lb,0,none⟩) n n, .slice (some ⟨tb,0,none⟩) n n, .slice none 0 0, .slice none 0 0] 124)=wx4 at *
    generalize wx3.heap.size=pc at *
    obtain ⟨vbl,-⟩:=I4.out.v vb rfl
    have v0:=vbl.cell 0;have vl:=vbl.lt;have vf:=vbl.free 0
    simp only [List.getElem?_cons_zero] at v0
    clear vbl
    refine wpRO_run rfl rfl (fun K hK=>?_);unfold gRun;go_simp
    refine hK _ _ (fun h=>h) ?_
    clear hK K
    refine wpRO_fin ?_
    have IM:=Hz I4.out.made
    clear v0 vl vf
    go_wp2_with fail
    refine ⟨by kernel_rfl,?_⟩
    exact IM.out
  ·unfold gRun;go_simp
   refine hK _ _ ?_
   clear hK K
   have I1:=Hz (show CutIn w1 h.p n ((w1.alloc (.cells #[.pointer none] 121)).drew) none none none (some w1.heap.size) from I0.out.var)
   generalize (w1.alloc (.cells #[.pointer none] 121)).drew=wx1 at *
   generalize w1.heap.size=vb at *
   refine wpRO_two rfl rfl rfl rfl (fun K hK=>?_) (fun K hK=>?_)
   ·unfold gRun;go_simp
    refine hK _ _ (fun h=>h) (fun _ h=>h) ?_
    clear hK K
    have I2:=Hz (show CutIn w1 h.p n (wx1.alloc (.cells (Array.replicate n (.bool false)) 4)) (some wx1.heap.size) none none (some vb) from I1.out.live)
    generalize wx1.alloc (.cells (Array.replicate n (.bool false)) 4)=wx2 at *
    generalize wx1.heap.size=lb at *
    refine wpRO_run rfl rfl (fun K hK=>?_);unfold gRun;go_simp
    refine hK _ _ (fun h=>h) ?_
    clear hK K
    have I3:=Hz (show CutIn w1 h.p n (wx2.alloc (.cells (Array.replicate n (.int .i64 0)) 3)) (some lb) (some wx2.heap.size) none (some vb) from I2.out.to)
    generalize wx2.alloc (.cells (Array.replicate n (.int .i64 0)) 3)=wx3 at *
    generalize wx2.heap.size=tb at *
    refine wpRO_free rfl rfl _ (fun w'=>by go_simp;exact Gives.mk _ _) (fun K hK=>?_);go_simp;refine hK _ ?_;clear hK K
    refine wpRO_run rfl rfl (fun K hK=>?_);unfold gRun;go_simp
    refine hK _ _ (fun h=>h) ?_
    clear hK K
    have I4:=Hz (show CutIn w1 h.p n (wx3.alloc (.cells #[.pointer (some ⟨h.p,0,none⟩), .slice (some ⟨lb,0,none⟩) n n, .slice (some ⟨tb,0,none⟩) n n, .slice none 0 0, .slice none 0 0] 124)) (some lb) (some tb) (some wx3.heap.size) (some vb) from I3.out.cut)
    generalize wx3.alloc (.cells #[.pointer (some ⟨h.p,0,none⟩), .slice (some ⟨lb,0,none⟩) n n, .slice (some ⟨tb,0,none⟩) n n, .slice none 0 0, .slice none 0 0] 124)=wx4 at *
    generalize wx3.heap.size=pc at *
    obtain ⟨vbl,-⟩:=I4.out.v vb rfl
    have v0:=vbl.cell 0;have vl:=vbl.lt;have vf:=vbl.free 0
    simp only [List.getElem?_cons_zero] at v0
    clear vbl
    refine wpRO_run rfl rfl (fun K hK=>?_);unfold gRun;go_simp
    refine hK _ _ (fun h=>h) ?_
    clear hK K
    refine wpRO_fin ?_
    have IM:=Hz I4.out.made
    clear v0 vl vf
    go_wp2_with fail
    refine ⟨by kernel_rfl,?_⟩
    exact IM.out
   ·unfold gRun;go_simp
    refine hK _ _ (fun h=>h) (fun _ h=>h) ?_
    clear hK K
    have I2:=Hz (show CutIn w1 h.p n (wx1.alloc (.cells (Array.replicate n (.int .i64 0)) 3)) none (some wx1.heap.size) none (some vb) from I1.out.to)
    generalize wx1.alloc (.cells (Array.replicate n (.int .i64 0)) 3)=wx2 at *
    generalize wx1.heap.size=tb at *
    refine wpRO_run rfl rfl (fun K hK=>?_);unfold gRun;go_simp
    refine hK _ _ (fun h=>h) ?_
    clear hK K
    have I3:=Hz (show CutIn w1 h.p n (wx2.alloc (.cells (Array.replicate n (.bool false)) 4)) (some wx2.heap.size) (some tb) none (some vb) from I2.out.live)
    generalize wx2.alloc (.cells (Array.replicate n (.bool false)) 4)=wx3 at *
    generalize wx2.heap.size=lb at *
    refine wpRO_free rfl rfl _ (fun w'=>by go_simp;exact Gives.mk _ _) (fun K hK=>?_);go_simp;refine hK _ ?_;clear hK K
    refine wpRO_run rfl rfl (fun K hK=>?_);unfold gRun;go_simp
    refine hK _ _ (fun h=>h) ?_
    clear hK K
    have I4:=Hz (show CutIn w1 h.p n (wx3.alloc (.cells #[.pointer (some ⟨h.p,0,none⟩), .slice (some ⟨lb,0,none⟩) n n, .slice (some ⟨tb,0,none⟩) n n, .slice none 0 0, .slice none 0 0] 124)) (some lb) (some tb) (some wx3.heap.size) (some vb) from I3.out.cut)
    generalize wx3.alloc (.cells #[.pointer (some ⟨h.p,0,none⟩), .slice (some ⟨lb,0,none⟩) n n, .slice (some ⟨tb,0,none⟩) n n, .slice none 0 0, .slice none 0 0] 124)=wx4 at *
    generalize wx3.heap.size=pc at *
    obtain ⟨vbl,-⟩:=I4.out.v vb rfl
    have v0:=vbl.cell 0;have vl:=vbl.lt;have vf:=vbl.free 0
    simp only [List.getElem?_cons_zero] at v0
    clear vbl
    refine wpRO_run rfl rfl (fun K hK=>?_);unfold gRun;go_simp
    refine hK _ _ (fun h=>h) ?_
    clear hK K
    refine wpRO_fin ?_
    have IM:=Hz I4.out.made
    clear v0 vl vf
    go_wp2_with fail
    refine ⟨by kernel_rfl,?_⟩
    exact IM.out
 intro u1 wx hR
 obtain ⟨lb,tb,pc,b,e4,hk,hlb,htb,hpc,hb,s1,s2,s3,s4⟩:=hR
 have e4:u1 4=.pointer (some ⟨b,0,none⟩):=e4
 simp (maxSteps:=2000000) only [overA,overL,List.toList_toArray,Nat.blt,Nat.beq,Nat.ble,Nat.reduceAdd,Bool.or_false,Bool.false_or,Bool.or_true,Bool.true_or,Bool.and_true,Bool.true_and,Bool.and_false,Bool.false_and,cond_true,cond_false]
 rw [e4]
 clear e4
 rename_i K3 hK3
 have HX:=Hz (H1.out.keep hk (fun _ _ h=>h))
 have hsz1:=K1.out.size
 have M0:=Hz (show JM w h O wx pc lb tb (.slice none 0 0) (.slice none 0 0) O.ar O.rt ⟨List.replicate n false,[],[]⟩ (List.replicate n 0) from
  ⟨⟨HX.out.hp,HX.out.ha,by simpa using hpc,by simpa using hlb,by simpa using htb,Sl.nil _ _ _,Sl.nil _ _ _,fun k hk=>nil_own hk.1,⟨fun h=>nil_own h,fun h=>nil_own h⟩⟩,HX.out.hc,HX.out.hs,HX.out.hr,(K1.out.trans hk).mono (fun _ _ h=>h.elim),fun k hk=>by
   rcases hk with hk | hk | hk | hk | hk | hk | hk | hk
   ·exact .inl (.inl hk)
   ·exact .inl (.inr (.inl hk))
   ·exact .inl (.inr (.inr hk))
   ·exact .inr (by rw [hk];exact Nat.le_trans hsz1 s3)
   ·exact .inr (by rw [hk];exact Nat.le_trans hsz1 s1)
   ·exact .inr (by rw [hk];exact Nat.le_trans hsz1 s2)
   ·exact (nil_own hk).elim
   ·exact (nil_own hk).elim⟩)
 have B0:=Hz (show Blk wx b [.pointer (some ⟨pc,0,none⟩)] 121 from hb)
 have BS:=Hz (Nat.le_trans hsz1 s4)
 have S:=Hz HR.out.shut
 have DR:=Hz HR.out.Dm_rt;have DG:=Hz HR.out.Dm_rg;have DW:=Hz HR.out.Dm_wt
 obtain ⟨T,hT⟩:∃ T:Int→Prop,(fun p=>∃ i,W.live i∧φ i=p)=T:=⟨_,rfl⟩
 rw [hT] at S DR DG DW
 have G0:=Hz (show GsOk O.ar T ⟨List.replicate n false,[],[]⟩ 1300 from ⟨by rw [HN.out];simp,fun i hi=>(by cases hi),fun i hi=>(by cases hi),by dsimp only;rw [fals_new];simp;omega⟩)
 clear hk hlb htb hpc hb s1 s2 s3 s4 hT hsz1 HX H1 K1
 obtain ⟨gr,og,rcap,ero,-,-,-⟩:=M0.out.rootCells HOK.out.h12
 have HRO:=Hz ero
 have p3:=M0.out.cells.2.2.2.1;have pl:=M0.out.cells.2.2.2.2
 rw [ero] at p3
 clear ero
 go_wp2_with fail
 go_loopw [50] (fun u wr=>∃ k:Nat,k≤12∧u=.int .i64 k∧∃ sv ev,JM w h O wr pc lb tb sv ev O.ar O.rt (jMarks ⟨List.replicate n false,[],[]⟩ (O.rt.take k)) (List.replicate n 0)∧Blk wr b [.pointer (some ⟨pc,0,none⟩)] 121) (fun u _=>12-(intOf u).toNat)
 case atStart=>exact ⟨0,Nat.zero_le _,rfl,_,_,M0.out,B0.out⟩
 case round=>
  clear M0 B0 p3 pl
  obtain ⟨k,hk,rfl,sv,ev,hM,hB⟩:=hrel
  have M:=Hz hM;have B:=Hz hB
  clear hM hB
  have GK:=Hz (GsOk.marks S.out (O.rt.take k) G0.out (fun x hx=>DR.out x (List.mem_of_mem_take hx))).1
  by_cases hlt:k<12
  ·obtain ⟨gr',og',rcap',ero,hgl,-,hcl⟩:=M.out.rootCells HOK.out.h12
   rw [HRO.out] at ero
   cases ero
   have d0:=hcl k (by rw [HOK.out.h12];exact hlt)
   have b0:=B.out.cell 0;have bl:=B.out.lt
   simp only [List.getElem?_cons_zero] at b0
   have HMS:=Hz (jMarks_snoc (s:=⟨List.replicate n false,[],[]⟩) (l:=O.rt) (k:=k) (by rw [HOK.out.h12];exact hlt))
   have DX:=Hz (DR.out (O.rt.getD k 0) (by rw [List.getD_eq_getElem?_getD,List.getElem?_eq_getElem (by rw [HOK.out.h12];exact hlt)];exact List.getElem_mem _))
   clear hcl
   generalize O.rt.getD k 0=x at *
   go_wp2_with fail
   refine (jMark_c x M.out.J S.out GK.out DX.out (by omega)).mono ?_
   rintro e w2 ⟨rfl,t⟩
   obtain ⟨sv2,M2'⟩:=M.out.tom HH.out t
   have M2:=Hz M2'
   have B2:=Hz (show Blk w2 b [.pointer (some ⟨pc,0,none⟩)] 121 by
    obtain ⟨_,_,kt,_⟩:=t
    exact kt.blk B.out (M.out.var B.out (.inl rfl)))
   clear t M2' d0 b0 bl hgl
   go_wp2_with fail
   go_roundw
   case rel=>exact ⟨k+1,hlt,by go_num,_,_,by rw [HMS.out];exact M2.out,B2.out⟩
   case measure=>simp [intOf];omega
  ·obtain rfl:k=12:=by omega
   have h12:=HOK.out.h12
   rw [List.take_of_length_le (by omega)] at M GK
   obtain ⟨s1,hs1⟩:∃ s,jMarks ⟨List.replicate n false,[],[]⟩ O.rt=s:=⟨_,rfl⟩
   have HS1:=Hz hs1
   rw [hs1] at M GK
   clear hs1 G0 hlt hk h12
   obtain ⟨w2,rfl⟩:∃ x:World,x=wr:=⟨wr,rfl⟩
   have p2:=M.out.cells.2.2.1;have pl:=M.out.cells.2.2.2.2
   have hq24:=HOK.out.hq
   go_wp2_with fail
   refine (Copy_c h.ps h.rv h.wv O.rg O.wt _ M.out.hs (by omega) (by omega)).mono ?_
   rintro e w3 ⟨sp,rv2,qv2,rfl,hsd,hk3,hso⟩
   have M3:=Hz (M.out.same HH.out hk3);have SD3:=Hz hsd;have SO3:=Hz (show InF w h (SideFp sp rv2 qv2) from fun k hk=>.inr (Nat.le_trans M.out.K.size (hso k hk)))
   have B3:=Hz (hk3.blk B.out (fun h=>h))
   clear hsd hk3 hso p2 pl M B
   go_upto_region 9 with fail
   have V4:=Hz (show JvAt (w3.alloc (.cells #[.pointer (some ⟨sp,0,none⟩)] 49)) w3.heap.size sp from Blk.newAt _ rfl rfl)
   have kA:=(Kz w3).alloc (.cells #[.pointer (some ⟨sp,0,none⟩)] 49)
   have M4:=Hz (M3.out.same HH.out kA)
   have SD4:=Hz (SD3.out.keep kA (fun _ _ h=>h))
   have B4:=Hz (show JcAt _ b ⟨h.p,h.pa,h.g,h.pc,h.ps,h.ro,pc,lb,tb⟩ from kA.blk B3.out (fun h=>h))
   have BV:=Hz (show w.heap.size≤w3.heap.size from M3.out.K.size)
   clear kA SD3 B3 M3
   generalize w3.alloc (.cells #[.pointer (some ⟨sp,0,none⟩)] 49)=w4 at *
   generalize w3.heap.size=vb2 at *
   have C4:=Hz (show JS w4 ⟨h.p,h.pa,h.g,h.pc,h.ps,h.ro,pc,lb,tb⟩ sp sv ev rv2 qv2 O.ar (List.replicate n 0) T 1300 O.rg O.wt s1 from ⟨M4.out.J,SD4.out,GK.out⟩)
   have b0:=B4.out.cell 0;have bl:=B4.out.lt
   have v0:=V4.out.cell 0;have vl:=V4.out.lt
   simp only [List.getElem?_cons_zero] at b0 v0
   clear SD4 GK
   go_wp2_with fail
   refine (jDrain_c C4.out S.out DW.out (by omega) (by omega)).mono ?_
   rintro e w5 ⟨rfl,sv5,ev5,hC5,k5,o5⟩
   have HPRE:=Hz (show jDrain O.ar O.wt 2000 s1=jPre O by unfold jPre;rw [HN.out,HS1.out])
   rw [HPRE.out] at hC5
   have C5:=Hz hC5
   have OWN5:=Hz (M4.out.own.mono (fun k hk=>(o5 k hk).imp id (fun h=>Nat.le_trans M4.out.K.size h)))
   have M5:=Hz (M4.out.keep HH.out k5 (M4.out.own.or SO3.out) hC5.J OWN5.out)
   have B5:=Hz (C4.out.var B4.out k5);have V5:=Hz (C4.out.var2 V4.out k5)
   clear hC5 k5 o5 C4 B4 V4 M4 HPRE HS1 b0 bl v0 vl
   have b0:=B5.out.cell 0;have bl:=B5.out.lt
   have v0:=V5.out.cell 0;have vl:=V5.out.lt
   simp only [List.getElem?_cons_zero] at b0 v0
   go_wp2_with fail
   refine (Settle_c sp (jSettleL ⟨h.p,h.pa,h.g,h.pc,h.ps,h.ro,pc,lb,tb⟩ O.ar (List.replicate n 0) T 1300 S.out (by omega) sp b vb2) (jPre O) (fun k=>JH.Own ⟨h.p,h.pa,h.g,h.pc,h.ps,h.ro,pc,lb,tb⟩ sv5 ev5 k∨k=b∨k=vb2) rv2 qv2 O.rg O.wt w5 ⟨sv5,ev5,C5.out.J,C5.out.ok,B5.out,V5.out,rfl⟩ C5.out.S (fun k hk=>by
    obtain ⟨hk | hk | hk,hs⟩:=hk
    ·exact C5.out.J.side_apart C5.out.S hk hs
    ·subst hk
     obtain ⟨_,U,h',hU⟩:=C5.out.S.fp_type hs
     refine B5.out.ne h' ?_ rfl
     rcases hU with rfl | rfl <;> decide
    ·subst hk
     obtain ⟨_,U,h',hU⟩:=C5.out.S.fp_type hs
     refine V5.out.ne h' ?_ rfl
     rcases hU with rfl | rfl <;> decide) (by omega) (by omega) (fun e he=>DG.out e he) (fun e he=>DW.out e he)).mono ?_
   rintro e w6 ⟨rfl,F6,rv6,qv6,⟨sv6,ev6,hJ6,hG6,hB6,hV6,rfl⟩,hS6,-,hk6,hF6,hsf6⟩
   have HPS:=Hz (show passM (jSettleL ⟨h.p,h.pa,h.g,h.pc,h.ps,h.ro,pc,lb,tb⟩ O.ar (List.replicate n 0) T 1300 S.out (by omega) sp b vb2).alive (jSettleL ⟨h.p,h.pa,h.g,h.pc,h.ps,h.ro,pc,lb,tb⟩ O.ar (List.replicate n 0) T 1300 S.out (by omega) sp b vb2).keep (jPre O) O.rg O.wt=jPass O from rfl)
   rw [HPS.out] at hJ6 hG6 hS6
   replace hS6:SideAt w6 sp rv6 qv6 (newRegs jAlive sameW (jPass O).1 (jPass O).2.2) (newWait jAlive sameW (jPass O).1 (jPass O).2.1):=hS6
   have INF:=Hz (show InF w h (fun k=>(JH.Own ⟨h.p,h.pa,h.g,h.pc,h.ps,h.ro,pc,lb,tb⟩ sv5 ev5 k∨k=b∨k=vb2)∨SideFp sp rv2 qv2 k) from fun k hk=>by
    rcases hk with (hk | hk | hk) | hk
    ·exact OWN5.out k hk
    ·exact .inr (by rw [hk];exact BS.out)
    ·exact .inr (by rw [hk];exact BV.out)
    ·exact SO3.out k hk)
   have M6:=Hz (M5.out.keep HH.out hk6 INF.out hJ6 (fun k hk=>by
    rcases hF6 k (.inl hk) with h1 | h1
    ·exact INF.out k (.inl h1)
    ·exact .inr (Nat.le_trans M5.out.K.size h1)))
   have SO6:=Hz (show InF w h (SideFp sp rv6 qv6) from fun k hk=>by
    rcases hsf6 k hk with h1 | h1
    ·exact SO3.out k h1
    ·exact .inr (Nat.le_trans M5.out.K.size h1))
   have S6:=Hz hS6;have B6:=Hz hB6;have V6:=Hz hV6;have G6:=Hz hG6
   clear hS6 hB6 hV6 hG6 hJ6 hk6 hF6 hsf6 HPS INF C5 M5 B5 V5 OWN5 SO3 b0 bl v0 vl
   obtain ⟨st,hst⟩:∃ t,(jPass O).1=t:=⟨_,rfl⟩
   have HST:=Hz hst
   rw [hst] at M6 G6 S6
   clear hst
   have p0:=M6.out.cells.1;have pl:=M6.out.cells.2.2.2.2
   have o1:=HOK.out.ha.h1;have o2:=HOK.out.ha.h2;have o3:=HOK.out.ha.h3
   rw [HN.out] at o3
   go_wp2_with fail
   refine (Bounds_c w6 M6.out.J.ha).mono ?_
   rintro e w7 ⟨rfl,hk⟩
   have M7:=Hz (M6.out.same HH.out hk);have K7:=Hz hk
   clear hk p0 pl M6
   have p0:=M7.out.cells.1;have pl:=M7.out.cells.2.2.2.2
   go_wp2_with fail
   refine (Used_c w7 M7.out.J.ha).mono ?_
   rintro e w8 ⟨rfl,hk⟩
   have M8:=Hz (M7.out.same HH.out hk);have K8:=Hz (K7.out.trans hk)
   clear hk p0 pl M7 K7
   have p0:=M8.out.cells.1;have pl:=M8.out.cells.2.2.2.2
   go_wp2_with fail
   refine (Free_c w8 M8.out.J.ha).mono ?_
   rintro e w9 ⟨rfl,hk⟩
   have M9:=Hz (M8.out.same HH.out hk);have K9:=Hz (K8.out.trans hk)
   have B9:=Hz (K9.out.blk B6.out (fun h=>h));have V9:=Hz (K9.out.blk V6.out (fun h=>h));have S9:=Hz (S6.out.keep K9.out (fun _ _ h=>h))
   clear hk p0 pl M8 K8 K9 B6 V6 S6
   have b0:=B9.out.cell 0;have bl:=B9.out.lt
   simp only [List.getElem?_cons_zero] at b0
   have HIN:=Hz (show ∀ i ∈ O.ar.things.2 ++ O.ar.things.1,0≤i∧i<st.lv.length from fun i hi=>by
    obtain ⟨j,hj,rfl⟩:=HR.out.onto i ((List.mem_append.1 hi).symm)
    have:=HR.out.live_bd hj
    have h2:=G6.out.len
    omega)
   have LV:=Hz (show st.lv.length=n by rw [G6.out.len,HN.out])
   go_wp2_with fail
   refine (jPlan_c (O.ar.nur:Int) M9.out.J (by omega) (by omega) (by rw [LV.out];simp) (by rw [LV.out];omega) HIN.out).mono ?_
   rintro e w10 ⟨rfl,hJ,hk⟩
   have HPL:=Hz (show jPlan O.ar st.lv O.ar.nur (O.ar.things.2 ++ O.ar.things.1) (List.replicate n 0,0)=jPl O by unfold jPl jAll;rw [HST.out,HN.out])
   rw [HPL.out] at hJ ⊢
   have M10:=Hz (M9.out.keep HH.out hk (fun k hk=>M9.out.own k (by rw [hk];exact .inr (.inr (.inr (.inr (.inr (.inl rfl))))))) hJ M9.out.own)
   have NTB:=Hz (show ∀ (c:List Value) (U:TypeId) (k:Nat),Blk w9 k c U→U≠3→¬ k=tb from fun c U k hb hU=>hb.ne M9.out.J.ht hU)
   have B10:=Hz (hk.blk B9.out (NTB.out _ _ _ B9.out (by decide)));have V10:=Hz (hk.blk V9.out (NTB.out _ _ _ V9.out (by decide)))
   have VB10:=Hz (show vb2<w10.heap.size from (hk.blk V9.out (NTB.out _ _ _ V9.out (by decide))).lt)
   have BB10:=Hz (show b<w10.heap.size from (hk.blk B9.out (NTB.out _ _ _ B9.out (by decide))).lt)
   have S10:=Hz (S9.out.keep hk (fun b hb=>by
    obtain ⟨_,U,h',hU⟩:=S9.out.fp_type hb
    exact NTB.out _ _ _ h' (by rcases hU with rfl | rfl <;> decide)))
   have SL10:=Hz (fun k (hk:SideFp sp rv6 qv6 k)=>S10.out.fp_lt hk)
   have PLB:=jPlan_bound O.ar st.lv O.ar.nur (O.ar.things.2 ++ O.ar.things.1) (List.replicate n 0,0) (by dsimp only;omega)
   rw [HPL.out] at PLB
   have FL:=Hz (show (jPl O).1.length=n by rw [PLB.2.2];simp)
   have hly:O.ar.things.1.length≤1300:=Ar.list_len O.ar 1300 _ _
   have hlo:O.ar.things.2.length≤1300:=Ar.list_len O.ar 1300 _ _
   have ab0:=PLB.1
   have ab1:(jPl O).2≤40000:=by have:=PLB.2.1;rw [List.length_append] at this;dsimp only at this;omega
   clear hJ hk NTB PLB M9 B9 V9 S9 b0 bl HPL hly hlo
   have hcut:jCut O=if (jPl O).2 > ((O.ar.grn:Int)-O.ar.nur)+((O.ar.ws.length:Int)-O.ar.grn) then (3,O) else jCut O:=by unfold jCut;split <;> rfl
   have HCUT:=Hz hcut
   have HHALF:=Hz HR.out.half
   clear hcut
   obtain ⟨f,hf⟩:∃ f,(jPl O).1=f:=⟨_,rfl⟩
   obtain ⟨all,hall⟩:∃ f,(jPl O).2=f:=⟨_,rfl⟩
   have HF:=Hz hf;have HALL:=Hz hall
   rw [hf] at M10 FL
   rw [hall] at ab0 ab1 HCUT ⊢
   clear hf hall
   have wsum:IntKind.i64.wrap (((O.ar.grn-O.ar.nur:Nat):Int)+((O.ar.ws.length-O.ar.grn:Nat):Int))=((O.ar.grn-O.ar.nur:Nat):Int)+((O.ar.ws.length-O.ar.grn:Nat):Int):=IntWalk.i64_in _ (by have:=HN.out;omega)
   by_cases hfull:all > ((O.ar.grn-O.ar.nur:Nat):Int)+((O.ar.ws.length-O.ar.grn:Nat):Int)
   ·have hd:decide (((O.ar.grn-O.ar.nur:Nat):Int)+((O.ar.ws.length-O.ar.grn:Nat):Int)<all)=true:=decide_eq_true hfull
    have hE:jCut O=(3,O):=by rw [HCUT.out,if_pos (by have:=HN.out;omega)]
    have HE:=Hz hE
    clear hE hfull
    go_wp2_with fail
    go_ret
    refine ⟨by rw [HE.out];rfl,?_⟩
    rw [HE.out]
    have M:=M10.out
    exact ⟨h,⟨M.J.hp,M.J.ha,M.hc,M.hs,M.hr,HH.out.ap,HOK.out⟩,rfl,M.K,fun k hk=>.inl hk⟩
   ·have hd:decide (((O.ar.grn-O.ar.nur:Nat):Int)+((O.ar.ws.length-O.ar.grn:Nat):Int)<all)=false:=decide_eq_false (by omega)
    have HNF:=Hz (show ¬ all > ((O.ar.grn:Int)-O.ar.nur)+((O.ar.ws.length:Int)-O.ar.grn) by have:=HN.out;omega)
    have HALF:=Hz (HHALF.out (by
     unfold jCut
     rw [HALL.out,if_neg HNF.out]
     exact fun h=>h rfl))
    clear hfull HHALF HCUT
    have HIN2:=Hz (show ∀ i ∈ jThings O,0≤i∧i<st.lv.length from fun i hi=>HIN.out i (List.mem_filter.1 hi).1)
    have HTH:=Hz (show (O.ar.things.2 ++ O.ar.things.1).filter (fun x=>!(!atB st.lv x))=jThings O by unfold jThings jAll;rw [HST.out];simp)
    have p0:=M10.out.cells.1;have pl:=M10.out.cells.2.2.2.2
    go_wp2_with fail
    refine (Things_c w10 M10.out.J.ha).mono ?_
    rintro e w11 ⟨ao1,ac1,bo1,bc1,rfl,hs1,hs2,hk,-,-⟩
    have KX:=Hz hk;have SY:=Hz hs1;have SD:=Hz hs2
    have hly:O.ar.things.1.length≤1300:=Ar.list_len O.ar 1300 _ _
    have hlo:O.ar.things.2.length≤1300:=Ar.list_len O.ar 1300 _ _
    clear hs1 hs2 hk p0 pl
    generalize O.ar.things.1=Yl at *
    generalize O.ar.things.2=Ol at *
    have b0:=(KX.out.blk B10.out (fun h=>h)).cell 0;have bl:=(KX.out.blk B10.out (fun h=>h)).lt
    simp only [List.getElem?_cons_zero] at b0
    go_wp2_with fail
    have HQ:Hid (Blk (w11.alloc (.cells #[.slice bo1 Ol.length bc1, .slice ao1 Yl.length ac1] 83)) w11.heap.size [.slice bo1 Ol.length bc1, .slice ao1 Yl.length ac1] 83):=Blk.newAt _ rfl rfl
    have KA:=Hz ((Kz w11).alloc (.cells #[.slice bo1 Ol.length bc1, .slice ao1 Yl.length ac1] 83))
    generalize w11.alloc (.cells #[.slice bo1 Ol.length bc1, .slice ao1 Yl.length ac1] 83)=w12 at *
    refine (Concat_c w11.heap.size bo1 ao1 bc1 ac1 Ol Yl w12 HQ.out (by obtain ⟨_,_,e,h,-,-⟩:=(SD.out.keep KA.out (fun _ _ h=>h)).rd;cases e;exact h) (by obtain ⟨_,_,e,h,-,-⟩:=(SY.out.keep KA.out (fun _ _ h=>h)).rd;cases e;exact h) (by omega) (by omega)).mono ?_
    rintro e w13 ⟨co,cc,rfl,hs3,hk3,ho3⟩
    have KY:=Hz ((KX.out.trans KA.out).trans hk3);have S13:=Hz hs3
    have HO3:=Hz (show ∀ k,ownB (.slice co (Ol ++ Yl).length cc) k→w10.heap.size≤k from fun k hk=>by
     have h1:=ho3 k hk;have h2:=(KX.out.trans KA.out).size;exact Nat.le_trans h2 h1)
    have M13:=Hz (M10.out.same HH.out KY.out)
    have B13:=Hz (KY.out.blk B10.out (fun h=>h));have V13:=Hz (KY.out.blk V10.out (fun h=>h));have S13':=Hz (S10.out.keep KY.out (fun _ _ h=>h))
    have LL:=Hz (show (Ol ++ Yl).length≤2600 by rw [List.length_append];omega)
    clear hs3 hk3 ho3 HQ KA SY SD KX hly hlo b0 bl B10 V10 S10
    generalize Ol ++ Yl=Ls at *
    have DEL:=Hz (DelF_c b (fun x=>!atB st.lv x) co cc Ls w13 S13.out (by have:=LL.out;omega) (fun x hx w' hk=>by
     have hin:=HIN.out x hx
     have hnot:∀ k,k<w10.heap.size→¬ ownB (.slice co Ls.length cc) k:=fun k hk ho=>by have:=HO3.out k ho;omega
     exact jCut3_c x b (M13.out.J.keep hk (fun k hk=>hnot k (M10.out.J.own_lt hk))) (hk.blk B13.out (hnot b (by have:=BB10.out;exact this))) hin.1 hin.2 (by rw [LV.out];omega)))
    unfold jDeadV at DEL
    have b0:=B13.out.cell 0;have bl:=B13.out.lt
    simp only [List.getElem?_cons_zero] at b0
    go_wp2_with fail
    refine DEL.out.mono ?_
    rintro e w14 ⟨lo,lc,rfl,hsl,hkl,hol⟩
    rw [HTH.out] at hsl hol ⊢
    have hnot:∀ k,k<w10.heap.size→¬ ownB (.slice co Ls.length cc) k:=fun k hk ho=>by have:=HO3.out k ho;omega
    obtain ⟨RG,hRG⟩:∃ l,newRegs jAlive sameW st (jPass O).2.2=l:=⟨_,rfl⟩
    obtain ⟨WT,hWT⟩:∃ l,newWait jAlive sameW st (jPass O).2.1=l:=⟨_,rfl⟩
    obtain ⟨L,hL⟩:∃ l,jThings O=l:=⟨_,rfl⟩
    have HRG:=Hz hRG;have HWT:=Hz hWT;have HLL:=Hz hL
    have DMR:=Hz (show ∀ e ∈ RG,O.dm e.1∧O.dm e.2 from by have:=HR.out.dm_regs;rw [HST.out,hRG] at this;exact this)
    have DMW:=Hz (show ∀ e ∈ WT,O.dm e.1∧O.dm e.2 from by have:=HR.out.dm_wait;rw [HST.out,hWT] at this;exact this)
    have DMT:=Hz HR.out.dm_rt
    have HE:=Hz (show jCut O=(0,⟨((jSlid O).cut all.toNat).clear,O.cd.map fun _=>false,O.rt.map (jNow f),RG.map (jNowE f),WT.map (jNowE f)⟩) by
     unfold jCut
     rw [HALL.out,if_neg (by have:=HNF.out;omega),HST.out,HF.out,hRG,hWT])
    have OK2:=Hz (show (jCut O).2.ok from by obtain ⟨_,ψ,R'⟩:=HR.out.major;exact R'.ho)
    have HNUR:=Hz (show O.ar.nur=(jCut O).2.ar.nur from by
     obtain ⟨_,ψ,R'⟩:=HR.out.major
     have h1:=R'.nur;have h2:=HR.out.nur;have h3:=(Wd.cut_dims W true).1
     omega)
    have HRW:=Hz (show RG.length+WT.length≤24 by
     have h1:=OK2.out.hq
     rw [HE.out] at h1
     simpa using h1)
    rw [hRG,hWT] at S13'
    rw [hL] at hsl hol HIN2 ⊢
    have Z0:=Hz (show JZ w h O w14 h.ps pc lb tb sv6 ev6 O.ar O.cd O.rt st f b vb2 sp rv6 qv6 RG WT lo lc L from
     ⟨M13.out.J.keep hkl (fun k hk=>hnot k (M10.out.J.own_lt hk)),M13.out.hc.keep hkl (hnot _ M10.out.hc.hp.lt) (hnot _ M10.out.hc.hq.lt),M13.out.hr.keep hkl (fun b hb=>hnot _ (M10.out.hr.own hb).1),M13.out.K.then hkl (fun k hk=>.inr (Nat.le_trans M10.out.K.size (HO3.out k hk))),S13'.out.keep hkl (fun b hb=>hnot _ (SL10.out b hb)),SO6.out,hkl.blk B13.out (hnot _ BB10.out),hkl.blk V13.out (hnot _ VB10.out),hsl,HH.out.ap⟩)
    have CBL:=Hz (show h.cb≠lb from fun e=>by
     have h1:=HH.out.away (k:=h.cb) (.inr (.inl rfl))
     have h2:=M10.out.own lb (.inr (.inr (.inr (.inr (.inl rfl)))))
     rw [←e] at h2
     omega)
    have LLN:=Hz (show L.length≤2600 by rw [←hL,←HTH.out];exact Nat.le_trans (List.length_filter_le _ _) LL.out)
    have HTU:=Hz (show ∀ k,k<L.length→∀ A i,(L.take k).foldl (jTurn st f) O.ar=A→L.getD k 0=i→A.ok∧0≤i∧i<O.ar.ws.length∧(∀ j:Int,0≤j→j<(A.thing i).2.1→A.inUse (i+1+j)=true)∧((A.thing i).1=4→0<(A.thing i).2.1)∧∀ j:Int,0≤j→j<(A.thing i).2.1→O.dm (A.load (i+1+j)) from by
     have:=HALF.out.turn;rw [HST.out,HF.out,hL] at this;exact this)
    have HSL:=Hz (show ∀ k,k<L.length→∀ A i,(L.take k).foldl (jSlide1 f) (jTurned O)=A→L.getD k 0=i→A.ok∧A.ws.length=O.ar.ws.length∧0≤i∧i+1+(A.thing i).2.1≤O.ar.ws.length∧0≤lookT f i∧lookT f i+1+(A.thing i).2.1≤O.ar.ws.length from by
     have:=HALF.out.slide;rw [HF.out,hL] at this;exact this)
    have HTD:=Hz (show jTurned O=L.foldl (jTurn st f) O.ar by unfold jTurned;rw [HST.out,HF.out,hL])
    have HSD:=Hz (show jSlid O=L.foldl (jSlide1 f) (jTurned O) by unfold jSlid;rw [HF.out,hL])
    clear hnot hRG hWT hL hsl hkl hol M13 B13 V13 S13 S13' SL10 BB10 VB10 HO3 KY M10 DEL b0 bl HIN HTH LL
    have hll:=LLN.out
    go_wp2_with fail
    go_loopw [121] (fun u wr=>∃ k:Nat,k≤L.length∧u=.int .i64 k∧JZ w h O wr h.ps pc lb tb sv6 ev6 ((L.take k).foldl (jTurn st f) O.ar) O.cd O.rt st f b vb2 sp rv6 qv6 RG WT lo lc L) (fun u _=>L.length-(intOf u).toNat)
    case atStart=>exact ⟨0,Nat.zero_le _,rfl,Z0.out⟩
    case round=>
     clear Z0
     obtain ⟨k,hk,rfl,hZ⟩:=hrel
     have Z:=Hz hZ
     clear hZ
     by_cases hlt:k<L.length
     ·obtain ⟨_,_,e',rd,-,-⟩:=Z.out.L.rd
      cases e'
      obtain ⟨gl,ol,rfl,d0⟩:=rd.int k hlt
      have hgl:=(Z.out.L.own (k:=gl) rfl).1
      have b0:=Z.out.B.cell 0;have bl:=Z.out.B.lt
      simp only [List.getElem?_cons_zero] at b0
      obtain ⟨u1',u2,u3,u4,u5,u6'⟩:=HTU.out k hlt _ _ rfl rfl
      have FT:=Hz (foldl_take (g:=jTurn st f) O.ar hlt)
      have TC:=Hz (jTurn_c (L.getD k 0) Z.out.J u2 (by have:=HN.out;omega) (by rw [LV.out];omega) (by rw [FL.out];omega) u4 u5 (fun j j0 j1 hm=>by
       have:=u6' j j0 j1 hm
       rw [LV.out,FL.out]
       have:=HN.out
       omega))
      clear u1' u2 u3 u4 u5 u6' rd
      generalize L.getD k 0=i at *
      go_wp2_with fail
      refine TC.out.mono ?_
      rintro e w15 ⟨rfl,t⟩
      have Z2:=Hz (Z.out.arena t)
      clear t b0 bl d0 hgl TC
      go_wp2_with fail
      go_roundw
      case rel=>exact ⟨k+1,hlt,by go_num,by rw [FT.out];exact Z2.out⟩
      case measure=>simp [intOf];omega
     ·obtain rfl:k=L.length:=by omega
      rw [List.take_length,←HTD.out] at Z
      obtain ⟨w15,rfl⟩:∃ x:World,x=wr:=⟨wr,rfl⟩
      obtain ⟨B0',hB0⟩:∃ B,jTurned O=B:=⟨_,rfl⟩
      have HB0:=Hz hB0
      rw [hB0] at Z HSD HSL
      have BOK:=Hz (show B0'.ok by rw [←hB0];exact HALF.out.tok)
      have BLEN:=Hz (show B0'.ws.length=O.ar.ws.length by rw [←hB0];exact HALF.out.tlen)
      clear hB0 hlt hk HTU HTD
      have r12:O.rt.length=12:=HOK.out.h12
      have q3:=Z.out.cells.2.2.2.1;have pl:=Z.out.cells.2.2.2.2.1
      rw [HRO.out] at q3
      go_wp2_with fail
      go_loopw [134] (fun u wr=>∃ k:Nat,k≤12∧u=.int .i64 k∧JZ w h O wr h.ps pc lb tb sv6 ev6 B0' O.cd (mapN (jNow f) O.rt k) st f b vb2 sp rv6 qv6 RG WT lo lc L) (fun u _=>12-(intOf u).toNat)
      case atStart=>exact ⟨0,Nat.zero_le _,rfl,by rw [mapN_zero];exact Z.out⟩
      case round=>
       clear Z q3 pl
       obtain ⟨k,hk,rfl,hZ⟩:=hrel
       have Z:=Hz hZ
       clear hZ
       by_cases hlt:k<12
       ·have hrl:(mapN (jNow f) O.rt k).length=12:=by rw [mapN_len];exact r12
        obtain ⟨gr',og',rcap',ero,hgl,hfz,hcl⟩:=Z.out.rootCells hrl
        rw [HRO.out] at ero
        cases ero
        have d0:=hcl k (by omega)
        rw [mapN_get (jNow f) 0 (by omega)] at d0
        have hf':=hfz (og+k)
        have q3:=Z.out.cells.2.2.2.1;have pl:=Z.out.cells.2.2.2.2.1
        rw [HRO.out] at q3
        have b0:=Z.out.B.cell 0;have bl:=Z.out.B.lt
        simp only [List.getElem?_cons_zero] at b0
        have HST3:=Hz (mapN_step (jNow f) (l:=O.rt) (k:=k) 0 (by omega))
        have DX:=Hz (DMT.out (O.rt.getD k 0) (by rw [List.getD_eq_getElem?_getD,List.getElem?_eq_getElem (by omega)];exact List.getElem_mem _))
        have HRL:=Hz hrl
        clear hcl hfz hrl
        generalize O.rt.getD k 0=x at *
        go_wp2_with fail
        refine wp_region_ro (.free 0 (.free 1 (.free 2 (.free 4 (.free 6 (.pure 3 (.pure 5 (.run 7 (.free 8 (.run 9 (.swi [] (.fin)))))))))))) [9] (fun w'=>w'.cell? ⟨h.p,3,none⟩=some (.slice (some ⟨gr,og,none⟩) 12 rcap)∧w'.cell? ⟨b,0,none⟩=some (.pointer (some ⟨pc,0,none⟩))) (by kernel_rfl) (by kernel_rfl) ⟨q3,b0⟩ ?_
        iterate 7 first | (refine wpRO_free rfl rfl _ (fun w'=>by go_simp;exact Gives.mk _ _) (fun K hK=>?_);go_simp;refine hK _ ?_;clear hK K) | (refine wpRO_skipF rfl rfl (fun K hK=>?_);go_simp;refine hK _ ?_;clear hK K) | (refine wpRO_pure rfl rfl _ (fun w' hG=>by obtain ⟨q3,b0⟩:=hG;exact gives_agg2 rfl (by decide +kernel) rfl (by assumption) (by assumption)) (fun K hK=>?_);go_simp;refine hK _ ?_;clear hK K) | (refine wpRO_pure rfl rfl _ (fun w' hG=>by obtain ⟨q3,b0⟩:=hG;go_simp;exact Gives.mk _ _) (fun K hK=>?_);go_simp;refine hK _ ?_;clear hK K) | (refine wpRO_skip rfl rfl (fun K hK=>?_);go_simp;refine hK _ ?_;clear hK K)
        have ZD:=Hz (Z.out.same (Kz wr).drew)
        refine wpRO_run rfl rfl (fun K hK=>?_);unfold gRun;go_simp
        refine (jNow_c x ZD.out.J (fun hm=>by have:=DX.out hm;have:=HN.out;rw [FL.out];omega) (by rw [FL.out];omega)).mono ?_
        rintro e w16 ⟨rfl,rfl⟩
        refine hK _ _ (fun h=>h) ?_
        clear hK K
        iterate 1 first | (refine wpRO_free rfl rfl _ (fun w'=>by go_simp;exact Gives.mk _ _) (fun K hK=>?_);go_simp;refine hK _ ?_;clear hK K) | (refine wpRO_skipF rfl rfl (fun K hK=>?_);go_simp;refine hK _ ?_;clear hK K)
        refine wpRO_chg rfl rfl rfl (fun K hK=>?_);unfold gRun;go_simp
        refine hK _ _ ?_
        clear hK K q3 pl b0 bl d0 hf' hgl
        refine wpRO_swi (fun _=>True) trivial (wpRO_fin ?_)
        have Z2:=Hz ((Z.out.root (x:=jNow f x) (by rw [HRO.out,HRL.out]) (by rw [HRL.out];exact hlt)).same (Kz (wr.setCell ⟨gr,og+k,none⟩ (.int .i64 (jNow f x)))).drew)
        rw [HST3.out] at Z2
        clear Z ZD
        go_wp2_with fail
        go_roundw
        case rel=>exact ⟨k+1,hlt,by go_num,Z2.out⟩
        case measure=>simp [intOf];omega
       ·obtain rfl:k=12:=by omega
        rw [←r12,mapN_all] at Z
        clear hlt hk
        obtain ⟨ro6,rc6,rfl,-,-,-⟩:=Z.out.S.hr.rd
        obtain ⟨qo6,qc6,rfl,-,-,-⟩:=Z.out.S.hw.rd
        have v0:=Z.out.V.cell 0;have vl:=Z.out.V.lt
        have s0:=Z.out.S.hp.cell 0;have s1':=Z.out.S.hp.cell 1;have sl:=Z.out.S.hp.lt
        simp only [List.getElem?_cons_zero,List.getElem?_cons_succ] at v0 s0 s1'
        have hrw:=HRW.out
        go_wp2_with fail
        refine wp_region_ro (.free 10 (.pure 0 (.free 1 (.free 2 (.pure 3 (.pure 4 (.free 5 (.free 6 (.pure 7 (.run 8 (.swi [] (.free 9 (.fin))))))))))))) [8,9] (fun w'=>w'.cell? ⟨vb2,0,none⟩=some (.pointer (some ⟨sp,0,none⟩))∧w'.cell? ⟨sp,0,none⟩=some (.slice ro6 RG.length rc6)∧w'.cell? ⟨sp,1,none⟩=some (.slice qo6 WT.length qc6)) (by kernel_rfl) (by kernel_rfl) ⟨v0,s0,s1'⟩ ?_
        iterate 9 first | (refine wpRO_free rfl rfl _ (fun w'=>by go_simp;exact Gives.mk _ _) (fun K hK=>?_);go_simp;refine hK _ ?_;clear hK K) | (refine wpRO_skipF rfl rfl (fun K hK=>?_);go_simp;refine hK _ ?_;clear hK K) | (refine wpRO_pure rfl rfl _ (fun w' hG=>by obtain ⟨v0,s0,s1'⟩:=hG;exact gives_agg2 rfl (by decide +kernel) rfl (by assumption) (by assumption)) (fun K hK=>?_);go_simp;refine hK _ ?_;clear hK K) | (refine wpRO_pure rfl rfl _ (fun w' hG=>by obtain ⟨v0,s0,s1'⟩:=hG;go_simp;exact Gives.mk _ _) (fun K hK=>?_);go_simp;refine hK _ ?_;clear hK K) | (refine wpRO_skip rfl rfl (fun K hK=>?_);go_simp;refine hK _ ?_;clear hK K)
        refine wpRO_chg rfl rfl rfl (fun K hK=>?_);unfold gRun;go_simp
        refine hK _ _ ?_
        clear hK K v0 vl s0 s1' sl
        refine wpRO_swi (fun _=>True) trivial ?_
        iterate 1 first | (refine wpRO_free rfl rfl _ (fun w'=>by go_simp;exact Gives.mk _ _) (fun K hK=>?_);go_simp;refine hK _ ?_;clear hK K) | (refine wpRO_skipF rfl rfl (fun K hK=>?_);go_simp;refine hK _ ?_;clear hK K)
        refine wpRO_fin ?_
        have kq:Keeps (fun _=>False) wr (wr.alloc (.cells #[.slice ro6 RG.length rc6, .slice qo6 WT.length qc6] 131)).drew:=((Kz wr).alloc _).drew
        have HQ:=Hz (show Blk (wr.alloc (.cells #[.slice ro6 RG.length rc6, .slice qo6 WT.length qc6] 131)).drew wr.heap.size [.slice ro6 RG.length rc6, .slice qo6 WT.length qc6] 131 from (Blk.newAt _ rfl rfl:Blk (wr.alloc (.cells #[.slice ro6 RG.length rc6, .slice qo6 WT.length qc6] 131)) wr.heap.size _ _).drew)
        have ZQ:=Hz (Z.out.same kq)
        clear kq Z
        generalize (wr.alloc (.cells #[.slice ro6 RG.length rc6, .slice qo6 WT.length qc6] 131)).drew=wq at *
        generalize wr.heap.size=q2 at *
        go_wp2_with fail
        go_loopw [159] (fun u wr=>∃ k:Nat,u=.int .i64 k∧((k=0∧JZ w h O wr h.ps pc lb tb sv6 ev6 B0' O.cd (O.rt.map (jNow f)) st f b vb2 sp (.slice ro6 RG.length rc6) (.slice qo6 WT.length qc6) RG WT lo lc L)∨(k=1∧JZ w h O wr h.ps pc lb tb sv6 ev6 B0' O.cd (O.rt.map (jNow f)) st f b vb2 sp (.slice ro6 RG.length rc6) (.slice qo6 WT.length qc6) (RG.map (jNowE f)) WT lo lc L)∨(k=2∧JZ w h O wr h.ps pc lb tb sv6 ev6 B0' O.cd (O.rt.map (jNow f)) st f b vb2 sp (.slice ro6 RG.length rc6) (.slice qo6 WT.length qc6) (RG.map (jNowE f)) (WT.map (jNowE f)) lo lc L))∧Blk wr q2 [.slice ro6 RG.length rc6, .slice qo6 WT.length qc6] 131) (fun u _=>2-(intOf u).toNat)
        case atStart=>exact ⟨0,rfl, .inl ⟨rfl,ZQ.out⟩,HQ.out⟩
        case round=>
         clear ZQ HQ
         obtain ⟨k,rfl,hcase,hQ⟩:=hrel
         have HQ:=Hz hQ
         have q0:=hQ.cell 0;have q1:=hQ.cell 1;have ql:=hQ.lt
         simp only [List.getElem?_cons_zero,List.getElem?_cons_succ] at q0 q1
         clear hQ
         rcases hcase with ⟨rfl,hZ⟩ | ⟨rfl,hZ⟩ | ⟨rfl,hZ⟩
         ·have Z:=Hz hZ
          clear hZ
          rw [show ((0:Nat):Int)=0 from rfl]
          go_wp2_with fail
          go_loopw [165] (fun u wr=>∃ m:Nat,m≤RG.length∧u=.int .i64 m∧JZ w h O wr h.ps pc lb tb sv6 ev6 B0' O.cd (O.rt.map (jNow f)) st f b vb2 sp (.slice ro6 RG.length rc6) (.slice qo6 WT.length qc6) (mapN (jNowE f) RG m) WT lo lc L∧Blk wr q2 [.slice ro6 RG.length rc6, .slice qo6 WT.length qc6] 131) (fun u _=>RG.length-(intOf u).toNat)
          case atStart=>exact ⟨0,Nat.zero_le _,rfl,by rw [mapN_zero];exact Z.out,HQ.out⟩
          case round=>
           clear Z HQ q0 q1 ql
           obtain ⟨m,hm,rfl,hZ,hQ⟩:=hrel
           have Z:=Hz hZ;have HQ:=Hz hQ
           clear hZ hQ
           by_cases hlt2:m<RG.length
           ·have hs:=Z.out.S.hr
            rw [mapN_len] at hs
            have hown:∀ g o,ro6=some ⟨g,o,none⟩→SideFp sp (.slice ro6 RG.length rc6) (.slice qo6 WT.length qc6) g:=fun g o e=>by subst e;exact .inr (.inl rfl)
            obtain ⟨_,_,e',rd,-,-⟩:=hs.rd
            cases e'
            obtain ⟨ge,oe,ee,hgl,d0,d1⟩:=rd.ent m (by rw [mapN_len];exact hlt2)
            have HOWN:=Hz (hown ge oe ee)
            subst ee
            rw [mapN_get (jNowE f) (0,0) hlt2] at d0 d1
            have DMX:=Hz (DMR.out (RG.getD m (0,0)) (by rw [List.getD_eq_getElem?_getD,List.getElem?_eq_getElem hlt2];exact List.getElem_mem _))
            have STEP:=Hz (mapN_step (jNowE f) (l:=RG) (k:=m) (0,0) hlt2)
            clear hs rd hown
            generalize RG.getD m (0,0)=xe at *
            obtain ⟨x1,x2⟩:=xe
            have d0:wr.cell? ⟨ge,oe+m*2,none⟩=some (.int .i64 x1):=d0
            have d1:wr.cell? ⟨ge,oe+m*2+1,none⟩=some (.int .i64 x2):=d1
            go_upto_region 36 with fail
            have HEB:Hid (Blk (wr.alloc (.cells #[.int .i64 x1, .int .i64 x2] 101)) wr.heap.size [.int .i64 x1, .int .i64 x2] 101):=Blk.newAt _ rfl rfl
            have kA:=(Kz wr).alloc (.cells #[.int .i64 x1, .int .i64 x2] 101)
            have ZA:=Hz (Z.out.same kA);have QA:=Hz (kA.blk HQ.out (fun h=>h))
            clear kA Z HQ d0 d1 hgl
            generalize wr.alloc (.cells #[.int .i64 x1, .int .i64 x2] 101)=wA at *
            generalize wr.heap.size=eb at *
            have b0:=ZA.out.B.cell 0;have bl:=ZA.out.B.lt
            have e0:=HEB.out.cell 0;have e1:=HEB.out.cell 1;have el:=HEB.out.lt
            simp only [List.getElem?_cons_zero,List.getElem?_cons_succ] at b0 e0 e1
            refine wp_region_ro (.free 0 (.free 1 (.free 3 (.free 7 (.pure 2 (.pure 4 (.pure 6 (.pure 8 (.run 5 (.run 9 (.swi [12] (.free 10 (.free 11 (.run 12 (.swi [] (.fin)))))))))))))))) [9,10,11,12] (fun w'=>w'.cell? ⟨b,0,none⟩=some (.pointer (some ⟨pc,0,none⟩))∧w'.cell? ⟨eb,0,none⟩=some (.int .i64 x1)∧w'.cell? ⟨eb,1,none⟩=some (.int .i64 x2)) (by kernel_rfl) (by kernel_rfl) ⟨b0,e0,e1⟩ ?_
            iterate 8 first | (refine wpRO_free rfl rfl _ (fun w'=>by go_simp;exact Gives.mk _ _) (fun K hK=>?_);go_simp;refine hK _ ?_;clear hK K) | (refine wpRO_skipF rfl rfl (fun K hK=>?_);go_simp;refine hK _ ?_;clear hK K) | (refine wpRO_pure rfl rfl _ (fun w' hG=>by obtain ⟨b0,e0,e1⟩:=hG;exact gives_agg2 rfl (by decide +kernel) rfl (by assumption) (by assumption)) (fun K hK=>?_);go_simp;refine hK _ ?_;clear hK K) | (refine wpRO_pure rfl rfl _ (fun w' hG=>by obtain ⟨b0,e0,e1⟩:=hG;go_simp;exact Gives.mk _ _) (fun K hK=>?_);go_simp;refine hK _ ?_;clear hK K) | (refine wpRO_skip rfl rfl (fun K hK=>?_);go_simp;refine hK _ ?_;clear hK K)
            have ZD:=Hz (ZA.out.same (Kz wA).drew);have QD:=Hz ((Kz wA).drew.blk QA.out (fun h=>h))
            refine wpRO_run rfl rfl (fun K hK=>?_);unfold gRun;go_simp
            refine (jNow_c x1 ZD.out.J (fun hm=>by have:=DMX.out.1 hm;have:=HN.out;rw [FL.out];omega) (by rw [FL.out];omega)).mono ?_
            rintro e w16 ⟨rfl,rfl⟩
            refine hK _ _ (fun h=>h) ?_
            clear hK K
            refine wpRO_chg rfl rfl rfl (fun K hK=>?_);unfold gRun;go_simp
            refine (jNow_c x2 ZD.out.J (fun hm=>by have:=DMX.out.2 hm;have:=HN.out;rw [FL.out];omega) (by rw [FL.out];omega)).mono ?_
            rintro e w16 ⟨rfl,rfl⟩
            refine hK _ _ ?_
            clear hK K b0 bl e0 e1 el HEB
            refine wpRO_swi (fun _=>True) trivial ?_
            have hlm:(m:Int)<RG.length:=by omega
            iterate 2 first | (refine wpRO_free rfl rfl _ (fun w'=>by go_simp;exact Gives.mk _ _) (fun K hK=>?_);go_simp;refine hK _ ?_;clear hK K) | (refine wpRO_skipF rfl rfl (fun K hK=>?_);go_simp;refine hK _ ?_;clear hK K)
            refine wpRO_chg rfl rfl rfl (fun K hK=>?_)
            refine gRun_store_val 101 (.tmp 181) (.tmp 180) rfl rfl ge oe RG.length rc6 m (entV (mapN (jNowE f) RG m)) 101 (.int .i64 (jNow f x1)) (.int .i64 (jNow f x2)) rfl rfl (by have hs:=ZD.out.S.hr;rw [mapN_len] at hs;exact hs) hlt2 (by kernel_rfl) rfl rfl ?_
            intro w17 hs3 hk3 hz3
            refine hK _ _ ?_
            clear hK K
            refine wpRO_swi (fun _=>True) trivial (wpRO_fin ?_)
            have ES:=Hz (entV_setV (mapN (jNowE f) RG m) m (jNow f x1,jNow f x2))
            obtain ⟨cge,hbge⟩:∃ c,Blk wA.drew ge c 101:=by
             have hs:=ZD.out.S.hr
             obtain ⟨_,c,hb⟩:=hs.own (k:=ge) rfl
             exact ⟨c,hb⟩
            have hne:∀ {bb:Nat} {c:List Value} {U:TypeId},Blk wA.drew bb c U→U≠101→¬ bb=ge:=fun hb hU=>hb.ne hbge hU
            have hs3':Sl w17 101 2 (.slice (some ⟨ge,oe,none⟩) RG.length rc6) (mapN (jNowE f) RG (m+1)).length (entV (mapN (jNowE f) RG (m+1))):=by
             rw [mapN_len,←STEP.out]
             show Sl w17 _ 2 _ _ (entV ((mapN (jNowE f) RG m).set m (jNow f x1,jNow f x2)))
             rw [ES.out];exact hs3
            have Z17:=Hz (ZD.out.side HOWN.out hbge hk3 ⟨hk3.blk ZD.out.S.hp (hne ZD.out.S.hp (by decide)),hs3',ZD.out.S.hw.keep hk3 (fun bb hb e=>ZD.out.S.ap bb ⟨e ▸ rfl,hb⟩),ZD.out.S.ap⟩)
            have Q17:=Hz (hk3.blk QD.out (hne QD.out (by decide)))
            clear hs3 hk3 hz3 ES hbge hne hs3' ZA QA ZD QD
            go_wp2_with fail
            go_roundw
            case rel=>exact ⟨m+1,hlt2,by go_num,Z17.out,Q17.out⟩
            case measure=>simp [intOf];omega
           ·obtain rfl:m=RG.length:=by omega
            rw [mapN_all] at Z
            go_wp2_with fail
            go_roundw
            case rel=>exact ⟨1,by go_num, .inr (.inl ⟨rfl,Z.out⟩),HQ.out⟩
            case measure=>decide
         ·have Z:=Hz hZ
          clear hZ
          rw [show ((1:Nat):Int)=1 from rfl]
          go_wp2_with fail
          go_loopw [165] (fun u wr=>∃ m:Nat,m≤WT.length∧u=.int .i64 m∧JZ w h O wr h.ps pc lb tb sv6 ev6 B0' O.cd (O.rt.map (jNow f)) st f b vb2 sp (.slice ro6 RG.length rc6) (.slice qo6 WT.length qc6) (RG.map (jNowE f)) (mapN (jNowE f) WT m) lo lc L∧Blk wr q2 [.slice ro6 RG.length rc6, .slice qo6 WT.length qc6] 131) (fun u _=>WT.length-(intOf u).toNat)
          case atStart=>exact ⟨0,Nat.zero_le _,rfl,by rw [mapN_zero];exact Z.out,HQ.out⟩
          case round=>
           clear Z HQ q0 q1 ql
           obtain ⟨m,hm,rfl,hZ,hQ⟩:=hrel
           have Z:=Hz hZ;have HQ:=Hz hQ
           clear hZ hQ
           by_cases hlt2:m<WT.length
           ·have hs:=Z.out.S.hw
            rw [mapN_len] at hs
            have hown:∀ g o,qo6=some ⟨g,o,none⟩→SideFp sp (.slice ro6 RG.length rc6) (.slice qo6 WT.length qc6) g:=fun g o e=>by subst e;exact .inr (.inr rfl)
            obtain ⟨_,_,e',rd,-,-⟩:=hs.rd
            cases e'
            obtain ⟨ge,oe,ee,hgl,d0,d1⟩:=rd.ent m (by rw [mapN_len];exact hlt2)
            have HOWN:=Hz (hown ge oe ee)
            subst ee
            rw [mapN_get (jNowE f) (0,0) hlt2] at d0 d1
            have DMX:=Hz (DMW.out (WT.getD m (0,0)) (by rw [List.getD_eq_getElem?_getD,List.getElem?_eq_getElem hlt2];exact List.getElem_mem _))
            have STEP:=Hz (mapN_step (jNowE f) (l:=WT) (k:=m) (0,0) hlt2)
            clear hs rd hown
            generalize WT.getD m (0,0)=xe at *
            obtain ⟨x1,x2⟩:=xe
            have d0:wr.cell? ⟨ge,oe+m*2,none⟩=some (.int .i64 x1):=d0
            have d1:wr.cell? ⟨ge,oe+m*2+1,none⟩=some (.int .i64 x2):=d1
            go_upto_region 36 with fail
            have HEB:Hid (Blk (wr.alloc (.cells #[.int .i64 x1, .int .i64 x2] 101)) wr.heap.size [.int .i64 x1, .int .i64 x2] 101):=Blk.newAt _ rfl rfl
            have kA:=(Kz wr).alloc (.cells #[.int .i64 x1, .int .i64 x2] 101)
            have ZA:=Hz (Z.out.same kA);have QA:=Hz (kA.blk HQ.out (fun h=>h))
            clear kA Z HQ d0 d1 hgl
            generalize wr.alloc (.cells #[.int .i64 x1, .int .i64 x2] 101)=wA at *
            generalize wr.heap.size=eb at *
            have b0:=ZA.out.B.cell 0;have bl:=ZA.out.B.lt
            have e0:=HEB.out.cell 0;have e1:=HEB.out.cell 1;have el:=HEB.out.lt
            simp only [List.getElem?_cons_zero,List.getElem?_cons_succ] at b0 e0 e1
            refine wp_region_ro (.free 0 (.free 1 (.free 3 (.free 7 (.pure 2 (.pure 4 (.pure 6 (.pure 8 (.run 5 (.run 9 (.swi [12] (.free 10 (.free 11 (.run 12 (.swi [] (.fin)))))))))))))))) [9,10,11,12] (fun w'=>w'.cell? ⟨b,0,none⟩=some (.pointer (some ⟨pc,0,none⟩))∧w'.cell? ⟨eb,0,none⟩=some (.int .i64 x1)∧w'.cell? ⟨eb,1,none⟩=some (.int .i64 x2)) (by kernel_rfl) (by kernel_rfl) ⟨b0,e0,e1⟩ ?_
            iterate 8 first | (refine wpRO_free rfl rfl _ (fun w'=>by go_simp;exact Gives.mk _ _) (fun K hK=>?_);go_simp;refine hK _ ?_;clear hK K) | (refine wpRO_skipF rfl rfl (fun K hK=>?_);go_simp;refine hK _ ?_;clear hK K) | (refine wpRO_pure rfl rfl _ (fun w' hG=>by obtain ⟨b0,e0,e1⟩:=hG;exact gives_agg2 rfl (by decide +kernel) rfl (by assumption) (by assumption)) (fun K hK=>?_);go_simp;refine hK _ ?_;clear hK K) | (refine wpRO_pure rfl rfl _ (fun w' hG=>by obtain ⟨b0,e0,e1⟩:=hG;go_simp;exact Gives.mk _ _) (fun K hK=>?_);go_simp;refine hK _ ?_;clear hK K) | (refine wpRO_skip rfl rfl (fun K hK=>?_);go_simp;refine hK _ ?_;clear hK K)
            have ZD:=Hz (ZA.out.same (Kz wA).drew);have QD:=Hz ((Kz wA).drew.blk QA.out (fun h=>h))
            refine wpRO_run rfl rfl (fun K hK=>?_);unfold gRun;go_simp
            refine (jNow_c x1 ZD.out.J (fun hm=>by have:=DMX.out.1 hm;have:=HN.out;rw [FL.out];omega) (by rw [FL.out];omega)).mono ?_
            rintro e w16 ⟨rfl,rfl⟩
            refine hK _ _ (fun h=>h) ?_
            clear hK K
            refine wpRO_chg rfl rfl rfl (fun K hK=>?_);unfold gRun;go_simp
            refine (jNow_c x2 ZD.out.J (fun hm=>by have:=DMX.out.2 hm;have:=HN.out;rw [FL.out];omega) (by rw [FL.out];omega)).mono ?_
            rintro e w16 ⟨rfl,rfl⟩
            refine hK _ _ ?_
            clear hK K b0 bl e0 e1 el HEB
            refine wpRO_swi (fun _=>True) trivial ?_
            have hlm:(m:Int)<WT.length:=by omega
            iterate 2 first | (refine wpRO_free rfl rfl _ (fun w'=>by go_simp;exact Gives.mk _ _) (fun K hK=>?_);go_simp;refine hK _ ?_;clear hK K) | (refine wpRO_skipF rfl rfl (fun K hK=>?_);go_simp;refine hK _ ?_;clear hK K)
            refine wpRO_chg rfl rfl rfl (fun K hK=>?_)
            refine gRun_store_val 101 (.tmp 181) (.tmp 180) rfl rfl ge oe WT.length qc6 m (entV (mapN (jNowE f) WT m)) 101 (.int .i64 (jNow f x1)) (.int .i64 (jNow f x2)) rfl rfl (by have hs:=ZD.out.S.hw;rw [mapN_len] at hs;exact hs) hlt2 (by kernel_rfl) rfl rfl ?_
            intro w17 hs3 hk3 hz3
            refine hK _ _ ?_
            clear hK K
            refine wpRO_swi (fun _=>True) trivial (wpRO_fin ?_)
            have ES:=Hz (entV_setV (mapN (jNowE f) WT m) m (jNow f x1,jNow f x2))
            obtain ⟨cge,hbge⟩:∃ c,Blk wA.drew ge c 101:=by
             have hs:=ZD.out.S.hw
             obtain ⟨_,c,hb⟩:=hs.own (k:=ge) rfl
             exact ⟨c,hb⟩
            have hne:∀ {bb:Nat} {c:List Value} {U:TypeId},Blk wA.drew bb c U→U≠101→¬ bb=ge:=fun hb hU=>hb.ne hbge hU
            have hs3':Sl w17 101 2 (.slice (some ⟨ge,oe,none⟩) WT.length qc6) (mapN (jNowE f) WT (m+1)).length (entV (mapN (jNowE f) WT (m+1))):=by
             rw [mapN_len,←STEP.out]
             show Sl w17 _ 2 _ _ (entV ((mapN (jNowE f) WT m).set m (jNow f x1,jNow f x2)))
             rw [ES.out];exact hs3
            have Z17:=Hz (ZD.out.side HOWN.out hbge hk3 ⟨hk3.blk ZD.out.S.hp (hne ZD.out.S.hp (by decide)),ZD.out.S.hr.keep hk3 (fun bb hb e=>ZD.out.S.ap bb ⟨hb,e ▸ rfl⟩),hs3',ZD.out.S.ap⟩)
            have Q17:=Hz (hk3.blk QD.out (hne QD.out (by decide)))
            clear hs3 hk3 hz3 ES hbge hne hs3' ZA QA ZD QD
            go_wp2_with fail
            go_roundw
            case rel=>exact ⟨m+1,hlt2,by go_num,Z17.out,Q17.out⟩
            case measure=>simp [intOf];omega
           ·obtain rfl:m=WT.length:=by omega
            rw [mapN_all] at Z
            go_wp2_with fail
            go_roundw
            case rel=>exact ⟨2,by go_num, .inr (.inr ⟨rfl,Z.out⟩),HQ.out⟩
            case measure=>decide
         ·have Z:=Hz hZ
          clear hZ q0 q1 ql HQ
          rw [show ((2:Nat):Int)=2 from rfl]
          obtain ⟨wd,rfl⟩:∃ x:World,x=wr:=⟨wr,rfl⟩
          have v0:=Z.out.V.cell 0;have vl:=Z.out.V.lt
          obtain ⟨-,-,p2,-,pl,pf⟩:=Z.out.cells
          simp only [List.getElem?_cons_zero] at v0
          have Z3:=Hz Z.out.take
          clear Z
          go_upto_region 40 with fail
          clear v0 vl p2 pl pf
          generalize wd.setCell ⟨h.p,2,none⟩ (.pointer (some ⟨sp,0,none⟩))=we at *
          have hll:=LLN.out
          go_wp2_with fail
          go_loopw [190] (fun u wr=>∃ k:Nat,k≤L.length∧u=.int .i64 k∧JZ w h O wr sp pc lb tb sv6 ev6 ((L.take k).foldl (jSlide1 f) B0') O.cd (O.rt.map (jNow f)) st f b vb2 sp (.slice ro6 RG.length rc6) (.slice qo6 WT.length qc6) (RG.map (jNowE f)) (WT.map (jNowE f)) lo lc L) (fun u _=>L.length-(intOf u).toNat)
          case atStart=>exact ⟨0,Nat.zero_le _,rfl,Z3.out⟩
          case round=>
           clear Z3
           obtain ⟨k,hk,rfl,hZ⟩:=hrel
           have Z:=Hz hZ
           clear hZ
           by_cases hlt:k<L.length
           ·obtain ⟨_,_,e',rd,-,-⟩:=Z.out.L.rd
            cases e'
            obtain ⟨gl,ol,rfl,d0⟩:=rd.int k hlt
            have hgl:=(Z.out.L.own (k:=gl) rfl).1
            obtain ⟨aok,alen,i0,i1,y0,y1⟩:=HSL.out k hlt _ _ rfl rfl
            have FT:=Hz (foldl_take (g:=jSlide1 f) B0' hlt)
            have IN2:=HIN2.out (L.getD k 0) (by rw [List.getD_eq_getElem?_getD,List.getElem?_eq_getElem hlt];exact List.getElem_mem _)
            obtain ⟨Ak,hAk⟩:∃ A,(L.take k).foldl (jSlide1 f) B0'=A:=⟨_,rfl⟩
            rw [hAk] at Z aok alen i1 y1 FT
            clear hAk rd
            generalize L.getD k 0=i at *
            obtain ⟨i,rfl⟩:=Int.eq_ofNat_of_zero_le i0
            unfold lookT at y0 y1
            rw [Int.toNat_natCast] at y0 y1
            have FTE:=Hz (show jSlide1 f Ak (i:Int)={ Ak with ws:=lay Ak.ws (f.getD i 0).toNat ((Ak.ws.drop i).take (1+(Ak.thing (i:Int)).2.1).toNat) } by unfold jSlide1;rw [Int.toNat_natCast])
            have t0:=Z.out.J.toCell (i:=i) (by have:=LV.out;have:=FL.out;omega)
            generalize f.getD i 0=y at *
            obtain ⟨y,rfl⟩:=Int.eq_ofNat_of_zero_le y0
            rw [Int.toNat_natCast] at FTE
            have HTG:=Hz (Thing_c i wr Z.out.J.ha)
            have hb:=Ak.thing_fields i
            obtain ⟨⟨kk,nn,cd9⟩,hT9⟩:∃ t,Ak.thing (i:Int)=t:=⟨_,rfl⟩
            rw [hT9] at HTG hb i1 y1 FTE
            dsimp only at HTG hb i1 y1 FTE
            clear hT9
            obtain ⟨m,rfl⟩:=Int.eq_ofNat_of_zero_le hb.1
            have hw9:IntKind.i64.wrap (1+(m:Int))=((1+m:Nat):Int):=by rw [IntWalk.i64_in _ (by omega)];omega
            have hw8:IntKind.i64.wrap (1+(m:Int))=1+(m:Int):=IntWalk.i64_in _ (by omega)
            have hty:((1:Int)+(m:Int)).toNat=1+m:=by omega
            rw [hty] at FTE
            have MV:=Hz (show ∀ wx,ArenaAt wx h.pa h.g Ak→Calls Tryz.prog 80 #[.pointer (some ⟨h.pa,0,none⟩), .int .i64 y, .int .i64 i, .int .i64 (1+(m:Int))] wx fun e w'=>e=.returned (.tuple #[])∧ArenaTo wx h.pa h.g w' (Ak.move y i (1+m)) from fun wx hx=>by
             have:=Move_c y i (1+m) wx hx (by omega) (by omega) (by omega) (by omega)
             rw [show ((1+m:Nat):Int)=1+(m:Int) by omega] at this
             exact this)
            have MVE:=Hz (show Ak.move y i (1+m)=jSlide1 f Ak (i:Int) from FTE.out.symm)
            have c2:=Z.out.J.cells.2.2.1;have cl:=Z.out.J.hc.lt;have tl:=Z.out.J.ht.lt
            rw [FL.out] at c2
            dsimp only at c2 t0
            have b0:=Z.out.B.cell 0;have bl:=Z.out.B.lt
            simp only [List.getElem?_cons_zero] at b0
            have p0:=Z.out.cells.1;have pl:=Z.out.cells.2.2.2.2.1
            have hin:(i:Int)<n:=by have:=LV.out;omega
            clear IN2 aok hw9 hty i0 i1 y0 y1 alen hb
            go_wp2_with fail
            refine HTG.out.mono ?_
            rintro e w18 ⟨rfl,rfl⟩
            go_wp2_with fail
            refine wp_region_ro (.free 0 (.free 1 (.free 2 (.free 8 (.free 11 (.free 12 (.free 13 (.pure 3 (.pure 4 (.free 5 (.free 6 (.pure 7 (.free 9 (.pure 10 (.run 14 (.swi [] (.fin))))))))))))))))) [14] (fun w'=>w'.cell? ⟨h.p,0,none⟩=some (.pointer (some ⟨h.pa,0,none⟩))∧w'.cell? ⟨b,0,none⟩=some (.pointer (some ⟨pc,0,none⟩))∧w'.cell? ⟨pc,2,none⟩=some (.slice (some ⟨tb,0,none⟩) n n)∧w'.cell? ⟨tb,i,none⟩=some (.int .i64 y)) (by kernel_rfl) (by kernel_rfl) ⟨p0,b0,c2,t0⟩ ?_
            iterate 14 first | (refine wpRO_free rfl rfl _ (fun w'=>by go_simp;exact Gives.mk _ _) (fun K hK=>?_);go_simp;refine hK _ ?_;clear hK K) | (refine wpRO_skipF rfl rfl (fun K hK=>?_);go_simp;refine hK _ ?_;clear hK K) | (refine wpRO_pure rfl rfl _ (fun w' hG=>by obtain ⟨p0,b0,c2,t0⟩:=hG;exact gives_agg2 rfl (by decide +kernel) rfl (by assumption) (by assumption)) (fun K hK=>?_);go_simp;refine hK _ ?_;clear hK K) | (refine wpRO_pure rfl rfl _ (fun w' hG=>by obtain ⟨p0,b0,c2,t0⟩:=hG;go_simp;exact Gives.mk _ _) (fun K hK=>?_);go_simp;refine hK _ ?_;clear hK K) | (refine wpRO_skip rfl rfl (fun K hK=>?_);go_simp;refine hK _ ?_;clear hK K)
            refine wpRO_chg rfl rfl rfl (fun K hK=>?_);unfold gRun;go_simp
            refine (MV.out _ (Z.out.same (Kz wr).drew).J.ha).mono ?_
            rintro e w19 ⟨rfl,t⟩
            rw [MVE.out] at t
            have Z2:=Hz ((Z.out.same (Kz wr).drew).arena t)
            refine hK _ _ ?_
            clear hK K t p0 pl b0 bl c2 cl tl t0 d0 hgl MV MVE HTG FTE Z
            refine wpRO_swi (fun _=>True) trivial (wpRO_fin ?_)
            go_wp2_with fail
            go_roundw
            case rel=>exact ⟨k+1,hlt,by go_num,by rw [FT.out];exact Z2.out⟩
            case measure=>simp [intOf];omega
           ·obtain rfl:k=L.length:=by omega
            rw [List.take_length,←HSD.out] at Z
            obtain ⟨na,hna⟩:=Int.eq_ofNat_of_zero_le ab0
            have E2:=Hz (show (jCut O).2=⟨((jSlid O).cut na).clear,List.replicate O.cd.length false,O.rt.map (jNow f),RG.map (jNowE f),WT.map (jNowE f)⟩ by
             rw [HE.out,hna]
             show Wo.mk _ _ _ _ _=_
             rw [Int.toNat_natCast,List.map_const'])
            have E1:=Hz (show (jCut O).1=0 by rw [HE.out])
            have hok2:=OK2.out
            have hnur:=HNUR.out
            rw [E2.out] at hok2 hnur
            have HCN:=Hz (show (jSlid O).nur+na≤(jSlid O).ws.length from hok2.ha.h3)
            have HOK2:=Hz hok2;have HNR:=Hz hnur
            clear hok2 hnur hlt hk HE OK2 HNUR HSD HSL
            rw [hna]
            clear hna ab0 ab1
            have p0:=Z.out.cells.1;have pl:=Z.out.cells.2.2.2.2.1
            go_wp2_with fail
            refine (ACut_c na _ Z.out.J.ha HCN.out).mono ?_
            rintro e w20 ⟨rfl,t⟩
            have Z4:=Hz (Z.out.arena t)
            clear t p0 pl Z
            have p0:=Z4.out.cells.1;have pl:=Z4.out.cells.2.2.2.2.1
            go_wp2_with fail
            refine (AClear_c _ Z4.out.J.ha).mono ?_
            rintro e w21 ⟨rfl,t⟩
            have Z5:=Hz (Z4.out.arena t)
            clear t p0 pl Z4
            have p1:=Z5.out.cells.2.1;have pl:=Z5.out.cells.2.2.2.2.1
            go_wp2_with fail
            refine (Clear_c h.pc h.cb O.ar.nur O.cd w21 Z5.out.hc).mono ?_
            rintro e w22 ⟨rfl,hc,hk⟩
            have Z6:=Hz (Z5.out.cards CBL.out hc hk)
            clear hc hk p1 pl Z5
            go_wp2_with fail
            go_ret
            refine ⟨by rw [E1.out];rfl,?_⟩
            rw [E2.out]
            exact Z6.out.done HNR.out HOK2.out
end
end
section
open Go.RowKit
def mB2:Wo:=(woC mB1 0 1 2 1 0).2
theorem mj1:(jCut mB2).1=0:=by decide +kernel
theorem mj2:(jCut mB2).2.ar.yng=0:=by decide +kernel
theorem mj3:(jCut mB2).2.ar.grn-(jCut mB2).2.ar.nur=3:=by decide +kernel
theorem mj4:(jCut mB2).2.view.2.length=1:=by decide +kernel
theorem jCut_code (O:Wo):(jCut O).1=0∨(jCut O).1=3:=by
 unfold jCut;split
 ·exact .inr rfl
 ·exact .inl rfl
theorem jCut_cards {O:Wo} (h:(jCut O).1=0):countL (jCut O).2.cd=0:=by
 unfold jCut at h ⊢
 split at h
 ·cases h
 ·rename_i hn
  rw [if_neg hn]
  exact countL_none _
section
variable {w0 w w':World} {p:Nat} {h:BH} {O:Wo} {W:Wd} {φ:Int→Int}
def BothCutRet (w0:World) (p:Nat) (W:Wd) (g:Bool) (e:Ending) (w':World):Prop:=
 ∃ h' O' W' ψ,e=.returned (.tuple #[.int .i64 (W.cut g).1, .bool true])∧BM w0 w' p h' O' W'∧W'.T.length=W.T.length∧Rep O' W' ψ
theorem bothCut_great (R:Rep O W φ) (M:BM w0 w p h O W) (hT:W.T.length≤90000) :
  Calls Tryz.prog 28 #[.pointer (some ⟨p,0,none⟩), .bool true] w (BothCutRet w0 p W true):=by
 have ⟨hc,ψ,R'⟩:=R.major
 obtain ⟨c0,c1,pl⟩:=M.pc
 have q0:=M.B.H.ptrs.1;have ql:=M.B.H.hp.lt
 have CUT:=Hz (majorCut_c R M.B.H)
 have HM:=Hz M;have HT:=Hz hT
 have CC:=Hz (jCut_code O)
 have HCN:=Hz (show (jCut O).1=0→countL (jCut O).2.cd=0 from jCut_cards)
 have HLC:=Hz (show (jCut O).2.cd.length≤1000000 from by have:=R'.ho.hc;have:=R'.ho.ha.h4;omega)
 have RR:=Hz R';have HC:=Hz hc
 have HTL:=Hz (show (W.cut true).2.T.length=W.T.length from Wd.cut_len W true)
 clear R M hT hc R'
 go_enter Tryz.func28,Tryz.ntmps28
 go_wp2_with fail
 refine CUT.out.mono ?_
 rintro e w1 ⟨rfl,ht⟩
 obtain ⟨h1,M1'⟩:=HM.out.wood ht
 have M1:=Hz M1'
 clear ht M1' CUT HM c0 c1 pl q0 ql
 obtain ⟨⟨c,P⟩,hP⟩:∃ t,jCut O=t:=⟨_,rfl⟩
 rw [hP] at M1 RR HC CC HCN HLC ⊢
 dsimp only at M1 RR HC CC HCN HLC ⊢
 clear hP
 obtain ⟨c0,c1,pl⟩:=M1.out.pc
 go_wp2_with fail
 refine (WCut_c true M1.out.B.R (by have:=HT.out;omega)).mono ?_
 rintro e w2 ⟨rfl,ht⟩
 obtain ⟨h2,M2'⟩:=M1.out.world ht
 have M2:=Hz M2'
 rw [←HC.out]
 clear ht M2' M1 c0 c1 pl
 have RC:=Hz (M2.out.right_c RR.out (by have:=HT.out;have:=HTL.out;omega))
 have hcc:(c == c)=true:=by simp
 go_wp2_with fail
 refine RC.out.mono ?_
 rintro e w3 ⟨rfl,hk3⟩
 have M3:=Hz (M2.out.same hk3)
 clear hk3 RC M2
 rcases CC.out with rfl | rfl
 ·have hcn:=HCN.out rfl
  obtain ⟨c0,c1,pl⟩:=M3.out.pc
  have q0:=M3.out.B.H.ptrs.1;have q1:=M3.out.B.H.ptrs.2.1;have ql:=M3.out.B.H.hp.lt
  go_wp2_with fail
  refine (Count_c _ _ _ _ _ M3.out.B.H.hc HLC.out).mono ?_
  rintro e w4 ⟨rfl,rfl⟩
  rw [hcn]
  clear c0 c1 pl q0 q1 ql
  go_wp2_with fail
  refine bodyPost_ret (v:=.tuple #[.int .i64 0, .bool true]) (by simp [results,Tryz.results28,go_sem]) rfl ⟨h2,P,_,ψ,by rw [←HC.out],M3.out,HTL.out,RR.out⟩
 ·go_wp2_with fail
  refine bodyPost_ret (v:=.tuple #[.int .i64 3, .bool true]) (by simp [results,Tryz.results28,go_sem]) rfl ⟨h2,P,_,ψ,by rw [←HC.out],M3.out,HTL.out,RR.out⟩
theorem bothCut_small (R:Rep O W φ) (M:BM w0 w p h O W) (hT:W.T.length≤90000) :
  Calls Tryz.prog 28 #[.pointer (some ⟨p,0,none⟩), .bool false] w (BothCutRet w0 p W false):=by
 have ⟨hc,ψ,R'⟩:=R.minor
 obtain ⟨c0,c1,pl⟩:=M.pc
 have q0:=M.B.H.ptrs.1;have ql:=M.B.H.hp.lt
 have CUT:=Hz (minorCut_c R M.B.H)
 have HM:=Hz M;have HT:=Hz hT
 have CC:=Hz (mCut_code O)
 have HCN:=Hz (show (mCut O).1=0→countL (mCut O).2.cd=0 from mCut_cards)
 have HLC:=Hz (show (mCut O).2.cd.length≤1000000 from by have:=R'.ho.hc;have:=R'.ho.ha.h4;omega)
 have RR:=Hz R';have HC:=Hz hc
 have HTL:=Hz (show (W.cut false).2.T.length=W.T.length from Wd.cut_len W false)
 clear R M hT hc R'
 go_enter Tryz.func28,Tryz.ntmps28
 go_wp2_with fail
 refine CUT.out.mono ?_
 rintro e w1 ⟨rfl,ht⟩
 obtain ⟨h1,M1'⟩:=HM.out.wood ht
 have M1:=Hz M1'
 clear ht M1' CUT HM c0 c1 pl q0 ql
 obtain ⟨⟨c,P⟩,hP⟩:∃ t,mCut O=t:=⟨_,rfl⟩
 rw [hP] at M1 RR HC CC HCN HLC ⊢
 dsimp only at M1 RR HC CC HCN HLC ⊢
 clear hP
 obtain ⟨c0,c1,pl⟩:=M1.out.pc
 go_wp2_with fail
 refine (WCut_c false M1.out.B.R (by have:=HT.out;omega)).mono ?_
 rintro e w2 ⟨rfl,ht⟩
 obtain ⟨h2,M2'⟩:=M1.out.world ht
 have M2:=Hz M2'
 rw [←HC.out]
 clear ht M2' M1 c0 c1 pl
 have RC:=Hz (M2.out.right_c RR.out (by have:=HT.out;have:=HTL.out;omega))
 have hcc:(c == c)=true:=by simp
 go_wp2_with fail
 refine RC.out.mono ?_
 rintro e w3 ⟨rfl,hk3⟩
 have M3:=Hz (M2.out.same hk3)
 clear hk3 RC M2
 rcases CC.out with rfl | rfl
 ·have hcn:=HCN.out rfl
  obtain ⟨c0,c1,pl⟩:=M3.out.pc
  have q0:=M3.out.B.H.ptrs.1;have q1:=M3.out.B.H.ptrs.2.1;have ql:=M3.out.B.H.hp.lt
  go_wp2_with fail
  refine (Count_c _ _ _ _ _ M3.out.B.H.hc HLC.out).mono ?_
  rintro e w4 ⟨rfl,rfl⟩
  rw [hcn]
  clear c0 c1 pl q0 q1 ql
  go_wp2_with fail
  refine bodyPost_ret (v:=.tuple #[.int .i64 0, .bool true]) (by simp [results,Tryz.results28,go_sem]) rfl ⟨h2,P,_,ψ,by rw [←HC.out],M3.out,HTL.out,RR.out⟩
 ·go_wp2_with fail
  refine bodyPost_ret (v:=.tuple #[.int .i64 3, .bool true]) (by simp [results,Tryz.results28,go_sem]) rfl ⟨h2,P,_,ψ,by rw [←HC.out],M3.out,HTL.out,RR.out⟩
theorem bothCut_c (g:Bool) (R:Rep O W φ) (M:BM w0 w p h O W) (hT:W.T.length≤90000) :
  Calls Tryz.prog 28 #[.pointer (some ⟨p,0,none⟩), .bool g] w (BothCutRet w0 p W g):=by
 cases g
 ·exact bothCut_small R M hT
 ·exact bothCut_great R M hT
theorem majorBegun_c (w:World):Calls Tryz.prog 12 #[] w fun e w'=>e=.returned (.bool true)∧Keeps (fun _=>False) w w':=by
 have hfit:Ar.fits 16 8=true:=by decide
 have HFIT:=Hz hfit
 go_enter Tryz.func12,Tryz.ntmps12
 go_wp2_with fail
 refine (start_yes 16 8 w hfit).mono ?_
 rintro e w1 ⟨h,rfl,B1,k1,o1⟩
 have M1:=Hz (show BM w w1 h.p h _ _ from ⟨B1,rfl,k1,o1⟩)
 have R1:=Hz (Rep.new HFIT.out)
 have hdo:=M1.out.do_c 0 1 2 0 (by simp [Wd.new]) (by unfold R64;decide) (by unfold R64;decide)
 rw [rootN0,rootN1] at hdo
 have hcs:=R1.out.cs 0 1 2 (a:=1) (c:=0) (by decide) (by decide)
 have hmb:(woC (Wo.new 16 8) 0 1 2 1 0).2=mB1:=rfl
 have hln:=wdC_len (Wd.new 16 8) 0 1 2 (a:=1) (c:=0) (by decide) (by decide)
 have hdd:=decide_eq_true hcs.1
 unfold BothDoRet at hdo
 rw [hdd,hmb] at hdo
 rw [hmb] at hcs
 obtain ⟨-,ψ,hR2⟩:=hcs
 have R2:=Hz hR2
 have HDO:=Hz hdo
 have HT1:=Hz (show (wdC (Wd.new 16 8) 0 1 2 1 0).2.T.length≤10 by have:(Wd.new 16 8).T.length=0:=rfl;omega)
 clear B1 k1 o1 hfit hdo hdd hmb hR2 hln
 generalize h.p=p at *
 generalize (wdC (Wd.new 16 8) 0 1 2 1 0).2=W1 at *
 go_wp2_with fail
 refine HDO.out.mono ?_
 rintro e w2 ⟨rfl,ht⟩
 obtain ⟨h2,hM2⟩:=M1.out.to ht
 have M2:=Hz hM2
 have hdo:=hM2.do_c 0 1 2 0 (by have:=HT1.out;omega) (by unfold R64;decide) (by unfold R64;decide)
 rw [rootN0,rootN1] at hdo
 have hcs:=R2.out.cs 0 1 2 (a:=1) (c:=0) (by decide) (by decide)
 have hmb:(woC mB1 0 1 2 1 0).2=mB2:=rfl
 have hdd:=decide_eq_true hcs.1
 unfold BothDoRet at hdo
 rw [hdd,hmb] at hdo
 rw [hmb] at hcs
 obtain ⟨-,ψ',hR3⟩:=hcs
 have R3:=Hz hR3
 have HDO2:=Hz hdo
 clear ht hM2 M1 HDO R1 HFIT hdo hmb hdd hR3 R2
 generalize (wdC W1 0 1 2 1 0).2=W2 at *
 go_wp2_with fail
 refine HDO2.out.mono ?_
 rintro e w3 ⟨rfl,ht⟩
 obtain ⟨h3,hM3⟩:=M2.out.to ht
 have M3:=Hz hM3
 obtain ⟨c0,c1,pl⟩:=hM3.pc
 clear ht hM3 M2 HDO2
 go_wp2_with fail
 refine (majorCut_c R3.out M3.out.B.H).mono ?_
 rintro e w4 ⟨rfl,ht⟩
 obtain ⟨h4,hM4⟩:=M3.out.wood ht
 have M4:=Hz hM4
 rw [mj1]
 clear ht hM4 M3 R3 c0 c1 pl
 obtain ⟨c0,c1,pl⟩:=M4.out.pc
 have q0:=M4.out.B.H.ptrs.1;have ql:=M4.out.B.H.hp.lt
 go_wp2_with fail
 refine (Used_c _ M4.out.B.H.ha).mono ?_
 rintro e w5 ⟨rfl,hk⟩
 have M5:=Hz (M4.out.same hk)
 rw [mj2,mj3]
 clear c0 c1 pl q0 ql hk M4
 obtain ⟨c0,c1,pl⟩:=M5.out.pc
 go_wp2_with fail
 refine (View_c _ M5.out.B.H).mono ?_
 rintro e w6 ⟨v,rfl,⟨ro,rc,no,nc,F,rfl,-,-,-⟩,hk⟩
 have K6:=Hz (M5.out.K.trans hk)
 rw [mj4]
 generalize (jCut mB2).2.view.1.length=vl at *
 have hfd:∀ w:World,(Instr.field 41 (.agg #[.slice ro vl rc, .slice no 1 nc]) 1).run Tryz.prog w=.ok (.slice no 1 nc) w:=fun _=>by kernel_rfl
 clear c0 c1 pl hk M5
 go_wp2_with fail
 go_ret
 exact ⟨rfl,K6.out⟩
end
end
section
open Go.RowKit
section
variable {w w':World}
theorem MajorDoes_raw (n o:Int) (lo:Option Addr) (lc m:Nat) (xs:List Int) (w:World) (h0:Rd w lo (xs.map (Value.int .i64))) (hx:xs.length=m*4) (hb:∀ x ∈ xs,R64 x) :
  Calls Tryz.prog 6 #[.int .i64 n, .int .i64 o, .slice lo m lc] w fun e w'=>e=.returned (.bool true)∧Keeps (fun _=>False) w w':=by
 have H0:=Hz h0;have HX:=Hz hx;have HBD:=Hz hb
 clear h0 hx hb
 go_enter Tryz.func6,Tryz.ntmps6
 go_wp2_with fail
 refine (majorBegun_c _).mono ?_
 rintro e w1 ⟨rfl,hk1⟩
 have HK1:=Hz hk1;clear hk1
 by_cases hm:250<m
 ·go_wp2_with fail
  go_ret
  exact ⟨rfl,HK1.out⟩
 cases hfit:Ar.fits n o
 ·have HFM:=Hz (show faultM n o=(1,-1) by unfold faultM;rw [hfit];rfl)
  go_wp2_with fail
  refine (start_no n o _ hfit).mono ?_
  rintro e w2 ⟨rfl,hk2⟩
  go_wp2_with fail
  refine (RoomFault_c n o _).mono ?_
  rintro e w3 ⟨rfl,hk3⟩
  rw [HFM.out]
  have hfd:∀ w:World,(Instr.field 28 (.agg #[.int .i64 1, .int .i64 (-1)]) 0).run Tryz.prog w=.ok (.int .i64 1) w:=fun _=>by kernel_rfl
  go_wp2_with fail
  go_ret
  exact ⟨rfl,(HK1.out.trans hk2).trans hk3⟩
 have HFIT:=Hz hfit
 go_wp2_with fail
 refine (start_yes n o _ hfit).mono ?_
 rintro e w2 ⟨h,rfl,B2,k2,o2⟩
 have HM:=Hz (show BM w w2 h.p h (Wo.new n o) (Wd.new n o) from ⟨B2,rfl,HK1.out.trans k2,fun b hb=>Nat.le_trans HK1.out.size (o2 b hb)⟩)
 clear hfit B2 k2 o2 HK1
 generalize h.p=p at *
 have HI:=Hz (show DInv w w2 p 0 from ⟨h,_,_,HM.out,by simp [Wd.new],_,Rep.new HFIT.out⟩)
 clear HM HFIT
 go_wp2_with fail
 refine wp_loop_over (fun i=>Nat.blt 29 i && Nat.blt i 62 || Nat.blt 8 i && Nat.blt i 12) (fun s wr=>∃ k:Nat,k≤m∧s 9=.int .i64 k∧DInv w wr p k) (fun s _=>m-(intOf (s 9)).toNat) ?_ ?_
 ·exact ⟨0,Nat.zero_le _,rfl,HI.out⟩
 ·intro u0 wr hrel K hK
  clear HI
  obtain ⟨k,hk,e9,hI⟩:=hrel
  have e9:u0 9=.int .i64 k:=e9
  have HI:=Hz hI
  clear hI
  simp only [overA,overL,List.toList_toArray,Nat.blt,Nat.beq,Nat.ble,Nat.reduceAdd,Bool.or_false,Bool.false_or,Bool.or_true,Bool.true_or,Bool.and_true,Bool.true_and,Bool.and_false,Bool.false_and,cond_true,cond_false]
  rw [e9]
  have E9:=Hz e9;clear e9
  by_cases hlt:k<m
  ·obtain ⟨h1,O1,W1,M1,hT1,φ1,R1⟩:=HI.out
   have hrd:=H0.out.keep M1.K (fun _ _ _ h=>h)
   obtain ⟨gs,os,rfl,hgl,d0⟩:=hrd.nth (k*4) (by rw [HX.out];omega)
   obtain ⟨_,_,e',-,d1⟩:=hrd.nth (k*4+1) (by rw [HX.out];omega)
   cases e'
   obtain ⟨_,_,e',-,d2⟩:=hrd.nth (k*4+2) (by rw [HX.out];omega)
   cases e'
   obtain ⟨_,_,e',-,d3⟩:=hrd.nth (k*4+3) (by rw [HX.out];omega)
   cases e'
   rw [←Nat.add_assoc] at d1 d2 d3
   have hy:∀ j,j<4→R64 (xs.getD (k*4+j) 0):=fun j hj=>HBD.out _ (by rw [List.getD_eq_getElem?_getD,List.getElem?_eq_getElem (by rw [HX.out];omega)];exact List.getElem_mem _)
   have HY1:=Hz (hy 1 (by decide));have HY2:=Hz (hy 2 (by decide))
   generalize xs.getD (k*4) 0=d at *
   generalize xs.getD (k*4+1) 0=x at *
   generalize xs.getD (k*4+2) 0=y at *
   generalize xs.getD (k*4+3) 0=z at *
   have M:=Hz M1;have R:=Hz R1;have HT:=Hz hT1
   clear hrd hy HI M1 R1 hT1
   by_cases h6:d<6
   ·have hd6:decide (d<6)=true:=by simpa using h6
    have HDO:=Hz (M.out.do_c d x y z (by have:=HT.out;omega) HY1.out HY2.out)
    have hcs:=R.out.cs d x y (rootN_lt x) (rootN_lt z)
    have hln:=wdC_len W1 d x y (rootN_lt x) (rootN_lt z)
    have EQ:=Hz (show decide ((woC O1 d x y (rootN x) (rootN z)).1=(wdC W1 d x y (rootN x) (rootN z)).1)=true by simpa using hcs.1)
    have HNX:=Hz (show ∀ w' h',BM w w' p h' (woC O1 d x y (rootN x) (rootN z)).2 (wdC W1 d x y (rootN x) (rootN z)).2→DInv w w' p (k+1) from fun w' h' M'=>by
     obtain ⟨-,ψ,R'⟩:=hcs
     exact ⟨h',_,_,M',by have:=HT.out;omega,ψ,R'⟩)
    clear hcs hln h6
    go_wp2_with (refine wpList_agg rfl 31 (.tmp 45) rfl [.int .i64 d, .int .i64 x, .int .i64 y, .int .i64 z] (by kernel_rfl) gs (os+k*4) rfl (rangeAt_cons d0 (rangeAt_cons d1 (rangeAt_cons d2 (rangeAt_cons d3 rangeAt_nil)))) ?_)
    refine HDO.out.mono ?_
    rintro e w2 ⟨rfl,ht⟩
    obtain ⟨h2,M2⟩:=M.out.to ht
    have HIK:=Hz (HNX.out _ _ M2)
    rw [EQ.out]
    clear ht M2 d0 d1 d2 d3 hgl HDO HNX
    go_wp2_with fail
    refine ⟨⟨by kernel_rfl,?rel⟩,?measure⟩
    case rel=>exact ⟨k+1,hlt,by go_num,HIK.out⟩
    case measure=>exact meas_lt (by go_num) (by first | rfl | exact E9.out) hlt
   ·have hd6:decide (d<6)=false:=by simpa using h6
    clear h6
    obtain ⟨g,hg⟩:∃ g,decide (6<d)=g:=⟨_,rfl⟩
    have CUT:=Hz (bothCut_c g R.out M.out (by have:=HT.out;omega))
    have HG:=Hz hg
    go_wp2_with fail
    refine CUT.out.mono ?_
    rintro e w5 ⟨h5,O5,W5,ψ,rfl,M5,hl5,R5⟩
    have HIK:=Hz (show DInv w w5 p (k+1) from ⟨h5,_,_,M5,by have:=HT.out;omega,ψ,R5⟩)
    clear M5 hl5 R5 CUT d0 d1 d2 d3 hgl M hg
    generalize (W1.cut g).1=cc at *
    go_wp2_with fail
    refine ⟨⟨by kernel_rfl,?rel⟩,?measure⟩
    case rel=>exact ⟨k+1,hlt,by go_num,HIK.out⟩
    case measure=>exact meas_lt (by go_num) (by first | rfl | exact E9.out) hlt
  ·obtain rfl:k=m:=by omega
   obtain ⟨h1,O1,W1,M1,hT1,φ1,R1⟩:=HI.out
   have CUT:=Hz (bothCut_c true R1 M1 (by omega))
   clear HI M1 R1 hT1
   go_wp2_with fail
   refine CUT.out.mono ?_
   rintro e w5 ⟨h5,O5,W5,ψ,rfl,M5,-,-⟩
   have K1:=Hz M5.K
   clear M5 CUT
   generalize (W1.cut true).1=cc at *
   go_wp2_with fail
   go_ret
   exact ⟨rfl,K1.out⟩
theorem MajorDoes_walk (n o:Int) (lo:Option Addr) (lc m:Nat) (xs:List Int) (w:World) (_:R64 n) (_:R64 o) (h0:Rd w lo (xs.map (Value.int .i64))) (hx:xs.length=m*4) (_:m≤maxLen) (hb:∀ x ∈ xs,R64 x) :
  Calls Tryz.prog 6 #[.int .i64 n, .int .i64 o, .slice lo m lc] w fun e w'=>e=.returned (.bool true)∧Below w.heap.size w w':=
 (MajorDoes_raw n o lo lc m xs w h0 hx hb).mono fun e w' ⟨h1,h2⟩=>⟨h1,h2.below (fun _ _ h=>h)⟩
end
end
end Go.Proofs.YtjifdalflepcoacGreat
