/- TR28: joined by merge.py. -/
import Derived.Test.YtainljbkejafcaaTA
import Derived.Test.YtainljbkejafcaaNCls
import Derived.Test.YtainljbkejafcaaNEq
/- Region 28 of TreePlays. -/
namespace Go.Proofs.Ytainljbkejafcaa.N
open Go.BigFrame Go.RowKit Go.Shelf Go.Proofs.YtainljbkejafcaaW.PrintMore Go.Proofs.YtainljbkejafcaaW.PrintWords
set_option linter.unusedVariables false
set_option linter.unusedSimpArgs false
theorem sp_neP (a : Sp) (W : World) : (binOp .neq 26 (.agg #[.int .i64 a.br, .int .i64 a.vol, .int .i64 a.blk, .int .u64 a.num]) (.agg #[.int .i64 a.br, .int .i64 a.vol, .int .i64 a.blk, .int .u64 a.num])).run Try.prog W = .ok (.bool false) W := by
  have := sp_ne a a W
  rw [show (!decide (a = a)) = false by simp] at this
  exact this
def pickR (n : Nat) : Code → Option (Array Oper)
  | .region id ops _ => if id = n then some ops else none
  | .seq a b => (pickR n a).or (pickR n b)
  | .cond _ a b => (pickR n a).or (pickR n b)
  | .block _ c => pickR n c
  | .loop c => pickR n c
  | _ => none
set_option maxHeartbeats 6400000 in
set_option maxRecDepth 100000 in
theorem r28_FF {ops : Array Oper} (h : (Try.f13.body).bind (pickR 28) = some ops) {Q : Exit → Act → World → Prop} {T2 : World} {D : List Deferred} {g8 pb qb M c8 i2 n cq : Nat} {Bq : Option Addr} {t0 t1 t2 t3 t4 t5 t6 t7 t9 t10 t11 t21 t22 t23 t24 t25 t26 t27 t28 t29 t30 t31 t32 t33 t34 t35 t36 t37 t38 t39 t40 t41 t42 t43 t44 t45 t46 t47 t48 t49 t50 t51 t52 t53 t54 t55 t56 t57 t58 t59 t60 t61 t62 t63 t64 t65 t66 t67 t68 t69 t70 t71 t72 t73 t74 t75 t76 t77 t78 t79 t80 t81 t82 t83 t84 t85 t86 t87 t88 t89 t90 t91 t92 t93 t94 t95 t96 t97 t98 t99 t100 t101 t102 t103 t104 t105 t106 t107 t108 t109 t110 t111 t112 t113 t114 t115 t116 t117 t118 t119 t120 t121 t122 t123 t124 t125 t126 t127 t128 t129 t130 t131 t132 t133 t134 t135 t136 t137 t138 t139 t140 t141 t142 t143 t144 t145 t146 t147 t148 t149 t150 t151 t152 t153 t154 t155 t156 t157 t158 t159 t160 t161 t162 t163 t164 t165 t166 t167 t168 t169 t170 t171 t172 t173 t174 t175 t176 t177 t178 t179 t180 t181 t182 t183 t184 t185 t186 t187 t188 t189 t190 t191 t192 t193 t194 t195 t196 t197 t198 t199 t200 t201 t202 t203 t204 t205 t206 t207 t208 t209 t210 t211 t212 t213 t214 t215 t216 t217 t218 t219 t220 t221 t222 t223 t224 t225 t226 t227 t228 t229 t230 t231 t232 t233 t234 t235 t236 t237 t238 t239 t240 t241 t242 t243 t244 t245 t246 t247 t248 t249 t250 t251 t252 t253 t254 t255 t256 t257 t258 t259 t260 t261 t262 t263 t264 t265 t266 t267 t268 t269 t270 t271 t272 t273 t274 t275 t276 t277 t278 t279 : Value}
    (q8 : T2.cell? ⟨g8, i2, none⟩ = some (.slice Bq n cq)) (e1 : (0 : Int) ≤ (i2 : Int)) (e2 : (i2 : Int) < (M : Int))
    (b10 : T2.cell? ⟨pb, 0, none⟩ = some (.int .i64 0)) (b11 : T2.cell? ⟨pb, 1, none⟩ = some (.int .i64 0)) (b12 : T2.cell? ⟨pb, 2, none⟩ = some (.int .i64 0)) (b13 : T2.cell? ⟨pb, 3, none⟩ = some (.int .u64 0))
    (b20 : T2.cell? ⟨qb, 0, none⟩ = some (.int .i64 0)) (b21 : T2.cell? ⟨qb, 1, none⟩ = some (.int .i64 0)) (b22 : T2.cell? ⟨qb, 2, none⟩ = some (.int .i64 0)) (b23 : T2.cell? ⟨qb, 3, none⟩ = some (.int .u64 0))
    (hQ : ∀ (s190 s191 s192 s193 s194 s195 s196 s197 s198 s199 s200 s201 s202 s203 s204 s205 s206 s207 s208 s209 s210 s211 s212 s213 s214 s215 s216 s217 s218 s219 s220 s221 s222 s223 s224 s225 s226 s227 s228 s229 s230 s231 s232 s233 s234 s235 s236 s237 s238 s239 s240 s241 s242 s243 s244 s245 s246 s247 s248 s249 s250 s251 s252 s253 s254 s255 s256 s257 s258 s259 s260 s261 s262 s263 s264 s265 s266 s267 s268 s269 s270 s271 s272 s273 s274 s275 s276 s277 s278 : Value) (X : World), Below T2.heap.size T2 X → Q .normal { tmps := #[t0, t1, t2, t3, t4, t5, t6, t7, .slice (some ⟨g8, 0, none⟩) M c8, t9, t10, t11, .int .i64 i2, .pointer (some ⟨pb, 0, none⟩), .int .u64 0, .bool false, .pointer (some ⟨qb, 0, none⟩), .int .u64 0, .bool false, .int .i64 (-1), .int .i64 (-1), t21, t22, t23, t24, t25, t26, t27, t28, t29, t30, t31, t32, t33, t34, t35, t36, t37, t38, t39, t40, t41, t42, t43, t44, t45, t46, t47, t48, t49, t50, t51, t52, t53, t54, t55, t56, t57, t58, t59, t60, t61, t62, t63, t64, t65, t66, t67, t68, t69, t70, t71, t72, t73, t74, t75, t76, t77, t78, t79, t80, t81, t82, t83, t84, t85, t86, t87, t88, t89, t90, t91, t92, t93, t94, t95, t96, t97, t98, t99, t100, t101, t102, t103, t104, t105, t106, t107, t108, t109, t110, t111, t112, t113, t114, t115, t116, t117, t118, t119, t120, t121, t122, t123, t124, t125, t126, t127, t128, t129, t130, t131, t132, t133, t134, t135, t136, t137, t138, t139, t140, t141, t142, t143, t144, t145, t146, t147, t148, t149, t150, t151, t152, t153, t154, t155, t156, t157, t158, t159, t160, t161, t162, t163, t164, t165, t166, t167, t168, t169, t170, t171, t172, t173, t174, t175, t176, t177, t178, t179, t180, t181, t182, t183, t184, t185, t186, t187, t188, t189, s190, s191, s192, s193, s194, s195, s196, s197, s198, s199, s200, s201, s202, s203, s204, s205, s206, s207, s208, s209, s210, s211, s212, s213, s214, s215, s216, s217, s218, s219, s220, s221, s222, s223, s224, s225, s226, s227, s228, s229, s230, s231, s232, s233, s234, s235, s236, s237, s238, s239, s240, s241, s242, s243, s244, s245, s246, s247, s248, s249, s250, s251, s252, s253, s254, s255, s256, s257, s258, s259, s260, s261, s262, s263, s264, s265, s266, s267, s268, s269, s270, s271, s272, s273, s274, s275, s276, s277, s278, .bool false], defers := D } X) :
    (Code.region 28 ops true).wp Try.prog Q { tmps := #[t0, t1, t2, t3, t4, t5, t6, t7, .slice (some ⟨g8, 0, none⟩) M c8, t9, t10, t11, .int .i64 i2, .pointer (some ⟨pb, 0, none⟩), .int .u64 0, .bool false, .pointer (some ⟨qb, 0, none⟩), .int .u64 0, .bool false, .int .i64 (-1), .int .i64 (-1), t21, t22, t23, t24, t25, t26, t27, t28, t29, t30, t31, t32, t33, t34, t35, t36, t37, t38, t39, t40, t41, t42, t43, t44, t45, t46, t47, t48, t49, t50, t51, t52, t53, t54, t55, t56, t57, t58, t59, t60, t61, t62, t63, t64, t65, t66, t67, t68, t69, t70, t71, t72, t73, t74, t75, t76, t77, t78, t79, t80, t81, t82, t83, t84, t85, t86, t87, t88, t89, t90, t91, t92, t93, t94, t95, t96, t97, t98, t99, t100, t101, t102, t103, t104, t105, t106, t107, t108, t109, t110, t111, t112, t113, t114, t115, t116, t117, t118, t119, t120, t121, t122, t123, t124, t125, t126, t127, t128, t129, t130, t131, t132, t133, t134, t135, t136, t137, t138, t139, t140, t141, t142, t143, t144, t145, t146, t147, t148, t149, t150, t151, t152, t153, t154, t155, t156, t157, t158, t159, t160, t161, t162, t163, t164, t165, t166, t167, t168, t169, t170, t171, t172, t173, t174, t175, t176, t177, t178, t179, t180, t181, t182, t183, t184, t185, t186, t187, t188, t189, t190, t191, t192, t193, t194, t195, t196, t197, t198, t199, t200, t201, t202, t203, t204, t205, t206, t207, t208, t209, t210, t211, t212, t213, t214, t215, t216, t217, t218, t219, t220, t221, t222, t223, t224, t225, t226, t227, t228, t229, t230, t231, t232, t233, t234, t235, t236, t237, t238, t239, t240, t241, t242, t243, t244, t245, t246, t247, t248, t249, t250, t251, t252, t253, t254, t255, t256, t257, t258, t259, t260, t261, t262, t263, t264, t265, t266, t267, t268, t269, t270, t271, t272, t273, t274, t275, t276, t277, t278, t279], defers := D } T2 := by
  have key : ∃ o, (Try.f13.body).bind (pickR 28) = some o ∧ (Code.region 28 o true).wp Try.prog Q { tmps := #[t0, t1, t2, t3, t4, t5, t6, t7, .slice (some ⟨g8, 0, none⟩) M c8, t9, t10, t11, .int .i64 i2, .pointer (some ⟨pb, 0, none⟩), .int .u64 0, .bool false, .pointer (some ⟨qb, 0, none⟩), .int .u64 0, .bool false, .int .i64 (-1), .int .i64 (-1), t21, t22, t23, t24, t25, t26, t27, t28, t29, t30, t31, t32, t33, t34, t35, t36, t37, t38, t39, t40, t41, t42, t43, t44, t45, t46, t47, t48, t49, t50, t51, t52, t53, t54, t55, t56, t57, t58, t59, t60, t61, t62, t63, t64, t65, t66, t67, t68, t69, t70, t71, t72, t73, t74, t75, t76, t77, t78, t79, t80, t81, t82, t83, t84, t85, t86, t87, t88, t89, t90, t91, t92, t93, t94, t95, t96, t97, t98, t99, t100, t101, t102, t103, t104, t105, t106, t107, t108, t109, t110, t111, t112, t113, t114, t115, t116, t117, t118, t119, t120, t121, t122, t123, t124, t125, t126, t127, t128, t129, t130, t131, t132, t133, t134, t135, t136, t137, t138, t139, t140, t141, t142, t143, t144, t145, t146, t147, t148, t149, t150, t151, t152, t153, t154, t155, t156, t157, t158, t159, t160, t161, t162, t163, t164, t165, t166, t167, t168, t169, t170, t171, t172, t173, t174, t175, t176, t177, t178, t179, t180, t181, t182, t183, t184, t185, t186, t187, t188, t189, t190, t191, t192, t193, t194, t195, t196, t197, t198, t199, t200, t201, t202, t203, t204, t205, t206, t207, t208, t209, t210, t211, t212, t213, t214, t215, t216, t217, t218, t219, t220, t221, t222, t223, t224, t225, t226, t227, t228, t229, t230, t231, t232, t233, t234, t235, t236, t237, t238, t239, t240, t241, t242, t243, t244, t245, t246, t247, t248, t249, t250, t251, t252, t253, t254, t255, t256, t257, t258, t259, t260, t261, t262, t263, t264, t265, t266, t267, t268, t269, t270, t271, t272, t273, t274, t275, t276, t277, t278, t279], defers := D } T2 := by
    refine ⟨_, rfl, ?_⟩
    clear h
    have : Nonempty (Wd (Below T2.heap.size T2)) := cls_ne T2
    have m8 := cls_cell q8
    have r10 := cls_cell b10
    have r11 := cls_cell b11
    have r12 := cls_cell b12
    have r13 := cls_cell b13
    have HE1 : ∀ W, _ := fun W => sp_neP ⟨0, 0, 0, 0⟩ W
    clear b10 b11 b12 b13
    have r20 := cls_cell b20
    have r21 := cls_cell b21
    have r22 := cls_cell b22
    have r23 := cls_cell b23
    have HE2 : ∀ W, _ := fun W => sp_neP ⟨0, 0, 0, 0⟩ W
    clear b20 b21 b22 b23
    clear q8
    (try simp only [List.append_eq, List.cons_append, List.nil_append])
    refine wp_region_cls (S := Below T2.heap.size T2) (by kernel_rfl) (by kernel_rfl) (bel_drewN _ _ (n := 1)) ?_
    repeat (go_big_quiet_step (fail))
    refine wpQuiet_nil ?_
    rintro _ ⟨x, rfl⟩
    exact hQ _ _ _ _ _ _ _ _ _ _ _ _ _ _ _ _ _ _ _ _ _ _ _ _ _ _ _ _ _ _ _ _ _ _ _ _ _ _ _ _ _ _ _ _ _ _ _ _ _ _ _ _ _ _ _ _ _ _ _ _ _ _ _ _ _ _ _ _ _ _ _ _ _ _ _ _ _ _ _ _ _ _ _ _ _ _ _ _ _ x.w x.h
  obtain ⟨o, e, hw⟩ := key
  rw [e] at h
  cases h
  exact hw
set_option maxHeartbeats 6400000 in
set_option maxRecDepth 100000 in
theorem r28_FT {ops : Array Oper} (h : (Try.f13.body).bind (pickR 28) = some ops) {Q : Exit → Act → World → Prop} {T2 : World} {D : List Deferred} {g8 pb qb M c8 i2 n cq : Nat} {Bq : Option Addr} {jc ib2 io2 : Nat} {xck : Sp} {nc : Int} {t0 t1 t2 t3 t4 t5 t6 t7 t9 t10 t11 t21 t22 t23 t24 t25 t26 t27 t28 t29 t30 t31 t32 t33 t34 t35 t36 t37 t38 t39 t40 t41 t42 t43 t44 t45 t46 t47 t48 t49 t50 t51 t52 t53 t54 t55 t56 t57 t58 t59 t60 t61 t62 t63 t64 t65 t66 t67 t68 t69 t70 t71 t72 t73 t74 t75 t76 t77 t78 t79 t80 t81 t82 t83 t84 t85 t86 t87 t88 t89 t90 t91 t92 t93 t94 t95 t96 t97 t98 t99 t100 t101 t102 t103 t104 t105 t106 t107 t108 t109 t110 t111 t112 t113 t114 t115 t116 t117 t118 t119 t120 t121 t122 t123 t124 t125 t126 t127 t128 t129 t130 t131 t132 t133 t134 t135 t136 t137 t138 t139 t140 t141 t142 t143 t144 t145 t146 t147 t148 t149 t150 t151 t152 t153 t154 t155 t156 t157 t158 t159 t160 t161 t162 t163 t164 t165 t166 t167 t168 t169 t170 t171 t172 t173 t174 t175 t176 t177 t178 t179 t180 t181 t182 t183 t184 t185 t186 t187 t188 t189 t190 t191 t192 t193 t194 t195 t196 t197 t198 t199 t200 t201 t202 t203 t204 t205 t206 t207 t208 t209 t210 t211 t212 t213 t214 t215 t216 t217 t218 t219 t220 t221 t222 t223 t224 t225 t226 t227 t228 t229 t230 t231 t232 t233 t234 t235 t236 t237 t238 t239 t240 t241 t242 t243 t244 t245 t246 t247 t248 t249 t250 t251 t252 t253 t254 t255 t256 t257 t258 t259 t260 t261 t262 t263 t264 t265 t266 t267 t268 t269 t270 t271 t272 t273 t274 t275 t276 t277 t278 t279 : Value}
    (q8 : T2.cell? ⟨g8, i2, none⟩ = some (.slice Bq n cq)) (e1 : (0 : Int) ≤ (i2 : Int)) (e2 : (i2 : Int) < (M : Int))
    (b10 : T2.cell? ⟨pb, 0, none⟩ = some (.int .i64 0)) (b11 : T2.cell? ⟨pb, 1, none⟩ = some (.int .i64 0)) (b12 : T2.cell? ⟨pb, 2, none⟩ = some (.int .i64 0)) (b13 : T2.cell? ⟨pb, 3, none⟩ = some (.int .u64 0))
    (b20 : T2.cell? ⟨qb, 0, none⟩ = some (.int .i64 xck.br)) (b21 : T2.cell? ⟨qb, 1, none⟩ = some (.int .i64 xck.vol)) (b22 : T2.cell? ⟨qb, 2, none⟩ = some (.int .i64 xck.blk)) (b23 : T2.cell? ⟨qb, 3, none⟩ = some (.int .u64 xck.num))
    (ea2 : Bq = some ⟨ib2, io2, none⟩) (ic2 : ItemAt T2 ib2 (io2 + jc * 5) (xck, nc)) (hj2 : jc < n)
    (hQ : ∀ (s190 s191 s192 s193 s194 s195 s196 s197 s198 s199 s200 s201 s202 s203 s204 s205 s206 s207 s208 s209 s210 s211 s212 s213 s214 s215 s216 s217 s218 s219 s220 s221 s222 s223 s224 s225 s226 s227 s228 s229 s230 s231 s232 s233 s234 s235 s236 s237 s238 s239 s240 s241 s242 s243 s244 s245 s246 s247 s248 s249 s250 s251 s252 s253 s254 s255 s256 s257 s258 s259 s260 s261 s262 s263 s264 s265 s266 s267 s268 s269 s270 s271 s272 s273 s274 s275 s276 s277 s278 : Value) (X : World), Below T2.heap.size T2 X → Q .normal { tmps := #[t0, t1, t2, t3, t4, t5, t6, t7, .slice (some ⟨g8, 0, none⟩) M c8, t9, t10, t11, .int .i64 i2, .pointer (some ⟨pb, 0, none⟩), .int .u64 0, .bool false, .pointer (some ⟨qb, 0, none⟩), .int .u64 nc, .bool true, .int .i64 (-1), .int .i64 jc, t21, t22, t23, t24, t25, t26, t27, t28, t29, t30, t31, t32, t33, t34, t35, t36, t37, t38, t39, t40, t41, t42, t43, t44, t45, t46, t47, t48, t49, t50, t51, t52, t53, t54, t55, t56, t57, t58, t59, t60, t61, t62, t63, t64, t65, t66, t67, t68, t69, t70, t71, t72, t73, t74, t75, t76, t77, t78, t79, t80, t81, t82, t83, t84, t85, t86, t87, t88, t89, t90, t91, t92, t93, t94, t95, t96, t97, t98, t99, t100, t101, t102, t103, t104, t105, t106, t107, t108, t109, t110, t111, t112, t113, t114, t115, t116, t117, t118, t119, t120, t121, t122, t123, t124, t125, t126, t127, t128, t129, t130, t131, t132, t133, t134, t135, t136, t137, t138, t139, t140, t141, t142, t143, t144, t145, t146, t147, t148, t149, t150, t151, t152, t153, t154, t155, t156, t157, t158, t159, t160, t161, t162, t163, t164, t165, t166, t167, t168, t169, t170, t171, t172, t173, t174, t175, t176, t177, t178, t179, t180, t181, t182, t183, t184, t185, t186, t187, t188, t189, s190, s191, s192, s193, s194, s195, s196, s197, s198, s199, s200, s201, s202, s203, s204, s205, s206, s207, s208, s209, s210, s211, s212, s213, s214, s215, s216, s217, s218, s219, s220, s221, s222, s223, s224, s225, s226, s227, s228, s229, s230, s231, s232, s233, s234, s235, s236, s237, s238, s239, s240, s241, s242, s243, s244, s245, s246, s247, s248, s249, s250, s251, s252, s253, s254, s255, s256, s257, s258, s259, s260, s261, s262, s263, s264, s265, s266, s267, s268, s269, s270, s271, s272, s273, s274, s275, s276, s277, s278, .bool false], defers := D } X) :
    (Code.region 28 ops true).wp Try.prog Q { tmps := #[t0, t1, t2, t3, t4, t5, t6, t7, .slice (some ⟨g8, 0, none⟩) M c8, t9, t10, t11, .int .i64 i2, .pointer (some ⟨pb, 0, none⟩), .int .u64 0, .bool false, .pointer (some ⟨qb, 0, none⟩), .int .u64 nc, .bool true, .int .i64 (-1), .int .i64 jc, t21, t22, t23, t24, t25, t26, t27, t28, t29, t30, t31, t32, t33, t34, t35, t36, t37, t38, t39, t40, t41, t42, t43, t44, t45, t46, t47, t48, t49, t50, t51, t52, t53, t54, t55, t56, t57, t58, t59, t60, t61, t62, t63, t64, t65, t66, t67, t68, t69, t70, t71, t72, t73, t74, t75, t76, t77, t78, t79, t80, t81, t82, t83, t84, t85, t86, t87, t88, t89, t90, t91, t92, t93, t94, t95, t96, t97, t98, t99, t100, t101, t102, t103, t104, t105, t106, t107, t108, t109, t110, t111, t112, t113, t114, t115, t116, t117, t118, t119, t120, t121, t122, t123, t124, t125, t126, t127, t128, t129, t130, t131, t132, t133, t134, t135, t136, t137, t138, t139, t140, t141, t142, t143, t144, t145, t146, t147, t148, t149, t150, t151, t152, t153, t154, t155, t156, t157, t158, t159, t160, t161, t162, t163, t164, t165, t166, t167, t168, t169, t170, t171, t172, t173, t174, t175, t176, t177, t178, t179, t180, t181, t182, t183, t184, t185, t186, t187, t188, t189, t190, t191, t192, t193, t194, t195, t196, t197, t198, t199, t200, t201, t202, t203, t204, t205, t206, t207, t208, t209, t210, t211, t212, t213, t214, t215, t216, t217, t218, t219, t220, t221, t222, t223, t224, t225, t226, t227, t228, t229, t230, t231, t232, t233, t234, t235, t236, t237, t238, t239, t240, t241, t242, t243, t244, t245, t246, t247, t248, t249, t250, t251, t252, t253, t254, t255, t256, t257, t258, t259, t260, t261, t262, t263, t264, t265, t266, t267, t268, t269, t270, t271, t272, t273, t274, t275, t276, t277, t278, t279], defers := D } T2 := by
  have key : ∃ o, (Try.f13.body).bind (pickR 28) = some o ∧ (Code.region 28 o true).wp Try.prog Q { tmps := #[t0, t1, t2, t3, t4, t5, t6, t7, .slice (some ⟨g8, 0, none⟩) M c8, t9, t10, t11, .int .i64 i2, .pointer (some ⟨pb, 0, none⟩), .int .u64 0, .bool false, .pointer (some ⟨qb, 0, none⟩), .int .u64 nc, .bool true, .int .i64 (-1), .int .i64 jc, t21, t22, t23, t24, t25, t26, t27, t28, t29, t30, t31, t32, t33, t34, t35, t36, t37, t38, t39, t40, t41, t42, t43, t44, t45, t46, t47, t48, t49, t50, t51, t52, t53, t54, t55, t56, t57, t58, t59, t60, t61, t62, t63, t64, t65, t66, t67, t68, t69, t70, t71, t72, t73, t74, t75, t76, t77, t78, t79, t80, t81, t82, t83, t84, t85, t86, t87, t88, t89, t90, t91, t92, t93, t94, t95, t96, t97, t98, t99, t100, t101, t102, t103, t104, t105, t106, t107, t108, t109, t110, t111, t112, t113, t114, t115, t116, t117, t118, t119, t120, t121, t122, t123, t124, t125, t126, t127, t128, t129, t130, t131, t132, t133, t134, t135, t136, t137, t138, t139, t140, t141, t142, t143, t144, t145, t146, t147, t148, t149, t150, t151, t152, t153, t154, t155, t156, t157, t158, t159, t160, t161, t162, t163, t164, t165, t166, t167, t168, t169, t170, t171, t172, t173, t174, t175, t176, t177, t178, t179, t180, t181, t182, t183, t184, t185, t186, t187, t188, t189, t190, t191, t192, t193, t194, t195, t196, t197, t198, t199, t200, t201, t202, t203, t204, t205, t206, t207, t208, t209, t210, t211, t212, t213, t214, t215, t216, t217, t218, t219, t220, t221, t222, t223, t224, t225, t226, t227, t228, t229, t230, t231, t232, t233, t234, t235, t236, t237, t238, t239, t240, t241, t242, t243, t244, t245, t246, t247, t248, t249, t250, t251, t252, t253, t254, t255, t256, t257, t258, t259, t260, t261, t262, t263, t264, t265, t266, t267, t268, t269, t270, t271, t272, t273, t274, t275, t276, t277, t278, t279], defers := D } T2 := by
    refine ⟨_, rfl, ?_⟩
    clear h
    have : Nonempty (Wd (Below T2.heap.size T2)) := cls_ne T2
    have m8 := cls_cell q8
    subst ea2
    have r10 := cls_cell b10
    have r11 := cls_cell b11
    have r12 := cls_cell b12
    have r13 := cls_cell b13
    have HE1 : ∀ W, _ := fun W => sp_neP ⟨0, 0, 0, 0⟩ W
    clear b10 b11 b12 b13
    have r20 := cls_cell b20
    have r21 := cls_cell b21
    have r22 := cls_cell b22
    have r23 := cls_cell b23
    obtain ⟨ic20, ic21, ic22, ic23, ic24⟩ := ic2
    have m20 := cls_cell ic20
    have m21 := cls_cell ic21
    have m22 := cls_cell ic22
    have m23 := cls_cell ic23
    have m24 := cls_cell ic24
    have g2a : (0 : Int) ≤ (jc : Int) := by omega
    have g2b : (jc : Int) < (n : Int) := by omega
    have g2c : decide ((0 : Int) ≤ (jc : Int)) = true := by simp
    have HE2 : ∀ W, _ := fun W => sp_neP xck W
    have hv2 : (nc != nc) = false := by simp
    clear ic20 ic21 ic22 ic23 ic24 hj2
    clear b20 b21 b22 b23
    clear q8
    (try simp only [List.append_eq, List.cons_append, List.nil_append])
    refine wp_region_cls (S := Below T2.heap.size T2) (by kernel_rfl) (by kernel_rfl) (bel_drewN _ _ (n := 1)) ?_
    repeat (go_big_quiet_step (fail))
    refine wpQuiet_nil ?_
    rintro _ ⟨x, rfl⟩
    exact hQ _ _ _ _ _ _ _ _ _ _ _ _ _ _ _ _ _ _ _ _ _ _ _ _ _ _ _ _ _ _ _ _ _ _ _ _ _ _ _ _ _ _ _ _ _ _ _ _ _ _ _ _ _ _ _ _ _ _ _ _ _ _ _ _ _ _ _ _ _ _ _ _ _ _ _ _ _ _ _ _ _ _ _ _ _ _ _ _ _ x.w x.h
  obtain ⟨o, e, hw⟩ := key
  rw [e] at h
  cases h
  exact hw
set_option maxHeartbeats 6400000 in
set_option maxRecDepth 100000 in
theorem r28_TF {ops : Array Oper} (h : (Try.f13.body).bind (pickR 28) = some ops) {Q : Exit → Act → World → Prop} {T2 : World} {D : List Deferred} {g8 pb qb M c8 i2 n cq : Nat} {Bq : Option Addr} {jf ib1 io1 : Nat} {xfk : Sp} {nf : Int} {t0 t1 t2 t3 t4 t5 t6 t7 t9 t10 t11 t21 t22 t23 t24 t25 t26 t27 t28 t29 t30 t31 t32 t33 t34 t35 t36 t37 t38 t39 t40 t41 t42 t43 t44 t45 t46 t47 t48 t49 t50 t51 t52 t53 t54 t55 t56 t57 t58 t59 t60 t61 t62 t63 t64 t65 t66 t67 t68 t69 t70 t71 t72 t73 t74 t75 t76 t77 t78 t79 t80 t81 t82 t83 t84 t85 t86 t87 t88 t89 t90 t91 t92 t93 t94 t95 t96 t97 t98 t99 t100 t101 t102 t103 t104 t105 t106 t107 t108 t109 t110 t111 t112 t113 t114 t115 t116 t117 t118 t119 t120 t121 t122 t123 t124 t125 t126 t127 t128 t129 t130 t131 t132 t133 t134 t135 t136 t137 t138 t139 t140 t141 t142 t143 t144 t145 t146 t147 t148 t149 t150 t151 t152 t153 t154 t155 t156 t157 t158 t159 t160 t161 t162 t163 t164 t165 t166 t167 t168 t169 t170 t171 t172 t173 t174 t175 t176 t177 t178 t179 t180 t181 t182 t183 t184 t185 t186 t187 t188 t189 t190 t191 t192 t193 t194 t195 t196 t197 t198 t199 t200 t201 t202 t203 t204 t205 t206 t207 t208 t209 t210 t211 t212 t213 t214 t215 t216 t217 t218 t219 t220 t221 t222 t223 t224 t225 t226 t227 t228 t229 t230 t231 t232 t233 t234 t235 t236 t237 t238 t239 t240 t241 t242 t243 t244 t245 t246 t247 t248 t249 t250 t251 t252 t253 t254 t255 t256 t257 t258 t259 t260 t261 t262 t263 t264 t265 t266 t267 t268 t269 t270 t271 t272 t273 t274 t275 t276 t277 t278 t279 : Value}
    (q8 : T2.cell? ⟨g8, i2, none⟩ = some (.slice Bq n cq)) (e1 : (0 : Int) ≤ (i2 : Int)) (e2 : (i2 : Int) < (M : Int))
    (b10 : T2.cell? ⟨pb, 0, none⟩ = some (.int .i64 xfk.br)) (b11 : T2.cell? ⟨pb, 1, none⟩ = some (.int .i64 xfk.vol)) (b12 : T2.cell? ⟨pb, 2, none⟩ = some (.int .i64 xfk.blk)) (b13 : T2.cell? ⟨pb, 3, none⟩ = some (.int .u64 xfk.num))
    (ea1 : Bq = some ⟨ib1, io1, none⟩) (ic1 : ItemAt T2 ib1 (io1 + jf * 5) (xfk, nf)) (hj1 : jf < n)
    (b20 : T2.cell? ⟨qb, 0, none⟩ = some (.int .i64 0)) (b21 : T2.cell? ⟨qb, 1, none⟩ = some (.int .i64 0)) (b22 : T2.cell? ⟨qb, 2, none⟩ = some (.int .i64 0)) (b23 : T2.cell? ⟨qb, 3, none⟩ = some (.int .u64 0))
    (hQ : ∀ (s190 s191 s192 s193 s194 s195 s196 s197 s198 s199 s200 s201 s202 s203 s204 s205 s206 s207 s208 s209 s210 s211 s212 s213 s214 s215 s216 s217 s218 s219 s220 s221 s222 s223 s224 s225 s226 s227 s228 s229 s230 s231 s232 s233 s234 s235 s236 s237 s238 s239 s240 s241 s242 s243 s244 s245 s246 s247 s248 s249 s250 s251 s252 s253 s254 s255 s256 s257 s258 s259 s260 s261 s262 s263 s264 s265 s266 s267 s268 s269 s270 s271 s272 s273 s274 s275 s276 s277 s278 : Value) (X : World), Below T2.heap.size T2 X → Q .normal { tmps := #[t0, t1, t2, t3, t4, t5, t6, t7, .slice (some ⟨g8, 0, none⟩) M c8, t9, t10, t11, .int .i64 i2, .pointer (some ⟨pb, 0, none⟩), .int .u64 nf, .bool true, .pointer (some ⟨qb, 0, none⟩), .int .u64 0, .bool false, .int .i64 jf, .int .i64 (-1), t21, t22, t23, t24, t25, t26, t27, t28, t29, t30, t31, t32, t33, t34, t35, t36, t37, t38, t39, t40, t41, t42, t43, t44, t45, t46, t47, t48, t49, t50, t51, t52, t53, t54, t55, t56, t57, t58, t59, t60, t61, t62, t63, t64, t65, t66, t67, t68, t69, t70, t71, t72, t73, t74, t75, t76, t77, t78, t79, t80, t81, t82, t83, t84, t85, t86, t87, t88, t89, t90, t91, t92, t93, t94, t95, t96, t97, t98, t99, t100, t101, t102, t103, t104, t105, t106, t107, t108, t109, t110, t111, t112, t113, t114, t115, t116, t117, t118, t119, t120, t121, t122, t123, t124, t125, t126, t127, t128, t129, t130, t131, t132, t133, t134, t135, t136, t137, t138, t139, t140, t141, t142, t143, t144, t145, t146, t147, t148, t149, t150, t151, t152, t153, t154, t155, t156, t157, t158, t159, t160, t161, t162, t163, t164, t165, t166, t167, t168, t169, t170, t171, t172, t173, t174, t175, t176, t177, t178, t179, t180, t181, t182, t183, t184, t185, t186, t187, t188, t189, s190, s191, s192, s193, s194, s195, s196, s197, s198, s199, s200, s201, s202, s203, s204, s205, s206, s207, s208, s209, s210, s211, s212, s213, s214, s215, s216, s217, s218, s219, s220, s221, s222, s223, s224, s225, s226, s227, s228, s229, s230, s231, s232, s233, s234, s235, s236, s237, s238, s239, s240, s241, s242, s243, s244, s245, s246, s247, s248, s249, s250, s251, s252, s253, s254, s255, s256, s257, s258, s259, s260, s261, s262, s263, s264, s265, s266, s267, s268, s269, s270, s271, s272, s273, s274, s275, s276, s277, s278, .bool false], defers := D } X) :
    (Code.region 28 ops true).wp Try.prog Q { tmps := #[t0, t1, t2, t3, t4, t5, t6, t7, .slice (some ⟨g8, 0, none⟩) M c8, t9, t10, t11, .int .i64 i2, .pointer (some ⟨pb, 0, none⟩), .int .u64 nf, .bool true, .pointer (some ⟨qb, 0, none⟩), .int .u64 0, .bool false, .int .i64 jf, .int .i64 (-1), t21, t22, t23, t24, t25, t26, t27, t28, t29, t30, t31, t32, t33, t34, t35, t36, t37, t38, t39, t40, t41, t42, t43, t44, t45, t46, t47, t48, t49, t50, t51, t52, t53, t54, t55, t56, t57, t58, t59, t60, t61, t62, t63, t64, t65, t66, t67, t68, t69, t70, t71, t72, t73, t74, t75, t76, t77, t78, t79, t80, t81, t82, t83, t84, t85, t86, t87, t88, t89, t90, t91, t92, t93, t94, t95, t96, t97, t98, t99, t100, t101, t102, t103, t104, t105, t106, t107, t108, t109, t110, t111, t112, t113, t114, t115, t116, t117, t118, t119, t120, t121, t122, t123, t124, t125, t126, t127, t128, t129, t130, t131, t132, t133, t134, t135, t136, t137, t138, t139, t140, t141, t142, t143, t144, t145, t146, t147, t148, t149, t150, t151, t152, t153, t154, t155, t156, t157, t158, t159, t160, t161, t162, t163, t164, t165, t166, t167, t168, t169, t170, t171, t172, t173, t174, t175, t176, t177, t178, t179, t180, t181, t182, t183, t184, t185, t186, t187, t188, t189, t190, t191, t192, t193, t194, t195, t196, t197, t198, t199, t200, t201, t202, t203, t204, t205, t206, t207, t208, t209, t210, t211, t212, t213, t214, t215, t216, t217, t218, t219, t220, t221, t222, t223, t224, t225, t226, t227, t228, t229, t230, t231, t232, t233, t234, t235, t236, t237, t238, t239, t240, t241, t242, t243, t244, t245, t246, t247, t248, t249, t250, t251, t252, t253, t254, t255, t256, t257, t258, t259, t260, t261, t262, t263, t264, t265, t266, t267, t268, t269, t270, t271, t272, t273, t274, t275, t276, t277, t278, t279], defers := D } T2 := by
  have key : ∃ o, (Try.f13.body).bind (pickR 28) = some o ∧ (Code.region 28 o true).wp Try.prog Q { tmps := #[t0, t1, t2, t3, t4, t5, t6, t7, .slice (some ⟨g8, 0, none⟩) M c8, t9, t10, t11, .int .i64 i2, .pointer (some ⟨pb, 0, none⟩), .int .u64 nf, .bool true, .pointer (some ⟨qb, 0, none⟩), .int .u64 0, .bool false, .int .i64 jf, .int .i64 (-1), t21, t22, t23, t24, t25, t26, t27, t28, t29, t30, t31, t32, t33, t34, t35, t36, t37, t38, t39, t40, t41, t42, t43, t44, t45, t46, t47, t48, t49, t50, t51, t52, t53, t54, t55, t56, t57, t58, t59, t60, t61, t62, t63, t64, t65, t66, t67, t68, t69, t70, t71, t72, t73, t74, t75, t76, t77, t78, t79, t80, t81, t82, t83, t84, t85, t86, t87, t88, t89, t90, t91, t92, t93, t94, t95, t96, t97, t98, t99, t100, t101, t102, t103, t104, t105, t106, t107, t108, t109, t110, t111, t112, t113, t114, t115, t116, t117, t118, t119, t120, t121, t122, t123, t124, t125, t126, t127, t128, t129, t130, t131, t132, t133, t134, t135, t136, t137, t138, t139, t140, t141, t142, t143, t144, t145, t146, t147, t148, t149, t150, t151, t152, t153, t154, t155, t156, t157, t158, t159, t160, t161, t162, t163, t164, t165, t166, t167, t168, t169, t170, t171, t172, t173, t174, t175, t176, t177, t178, t179, t180, t181, t182, t183, t184, t185, t186, t187, t188, t189, t190, t191, t192, t193, t194, t195, t196, t197, t198, t199, t200, t201, t202, t203, t204, t205, t206, t207, t208, t209, t210, t211, t212, t213, t214, t215, t216, t217, t218, t219, t220, t221, t222, t223, t224, t225, t226, t227, t228, t229, t230, t231, t232, t233, t234, t235, t236, t237, t238, t239, t240, t241, t242, t243, t244, t245, t246, t247, t248, t249, t250, t251, t252, t253, t254, t255, t256, t257, t258, t259, t260, t261, t262, t263, t264, t265, t266, t267, t268, t269, t270, t271, t272, t273, t274, t275, t276, t277, t278, t279], defers := D } T2 := by
    refine ⟨_, rfl, ?_⟩
    clear h
    have : Nonempty (Wd (Below T2.heap.size T2)) := cls_ne T2
    have m8 := cls_cell q8
    subst ea1
    have r10 := cls_cell b10
    have r11 := cls_cell b11
    have r12 := cls_cell b12
    have r13 := cls_cell b13
    obtain ⟨ic10, ic11, ic12, ic13, ic14⟩ := ic1
    have m10 := cls_cell ic10
    have m11 := cls_cell ic11
    have m12 := cls_cell ic12
    have m13 := cls_cell ic13
    have m14 := cls_cell ic14
    have g1a : (0 : Int) ≤ (jf : Int) := by omega
    have g1b : (jf : Int) < (n : Int) := by omega
    have g1c : decide ((0 : Int) ≤ (jf : Int)) = true := by simp
    have HE1 : ∀ W, _ := fun W => sp_neP xfk W
    have hv1 : (nf != nf) = false := by simp
    clear ic10 ic11 ic12 ic13 ic14 hj1
    clear b10 b11 b12 b13
    have r20 := cls_cell b20
    have r21 := cls_cell b21
    have r22 := cls_cell b22
    have r23 := cls_cell b23
    have HE2 : ∀ W, _ := fun W => sp_neP ⟨0, 0, 0, 0⟩ W
    clear b20 b21 b22 b23
    clear q8
    (try simp only [List.append_eq, List.cons_append, List.nil_append])
    refine wp_region_cls (S := Below T2.heap.size T2) (by kernel_rfl) (by kernel_rfl) (bel_drewN _ _ (n := 1)) ?_
    repeat (go_big_quiet_step (fail))
    refine wpQuiet_nil ?_
    rintro _ ⟨x, rfl⟩
    exact hQ _ _ _ _ _ _ _ _ _ _ _ _ _ _ _ _ _ _ _ _ _ _ _ _ _ _ _ _ _ _ _ _ _ _ _ _ _ _ _ _ _ _ _ _ _ _ _ _ _ _ _ _ _ _ _ _ _ _ _ _ _ _ _ _ _ _ _ _ _ _ _ _ _ _ _ _ _ _ _ _ _ _ _ _ _ _ _ _ _ x.w x.h
  obtain ⟨o, e, hw⟩ := key
  rw [e] at h
  cases h
  exact hw
set_option maxHeartbeats 6400000 in
set_option maxRecDepth 100000 in
theorem r28_TT {ops : Array Oper} (h : (Try.f13.body).bind (pickR 28) = some ops) {Q : Exit → Act → World → Prop} {T2 : World} {D : List Deferred} {g8 pb qb M c8 i2 n cq : Nat} {Bq : Option Addr} {jf ib1 io1 : Nat} {xfk : Sp} {nf : Int} {jc ib2 io2 : Nat} {xck : Sp} {nc : Int} {t0 t1 t2 t3 t4 t5 t6 t7 t9 t10 t11 t21 t22 t23 t24 t25 t26 t27 t28 t29 t30 t31 t32 t33 t34 t35 t36 t37 t38 t39 t40 t41 t42 t43 t44 t45 t46 t47 t48 t49 t50 t51 t52 t53 t54 t55 t56 t57 t58 t59 t60 t61 t62 t63 t64 t65 t66 t67 t68 t69 t70 t71 t72 t73 t74 t75 t76 t77 t78 t79 t80 t81 t82 t83 t84 t85 t86 t87 t88 t89 t90 t91 t92 t93 t94 t95 t96 t97 t98 t99 t100 t101 t102 t103 t104 t105 t106 t107 t108 t109 t110 t111 t112 t113 t114 t115 t116 t117 t118 t119 t120 t121 t122 t123 t124 t125 t126 t127 t128 t129 t130 t131 t132 t133 t134 t135 t136 t137 t138 t139 t140 t141 t142 t143 t144 t145 t146 t147 t148 t149 t150 t151 t152 t153 t154 t155 t156 t157 t158 t159 t160 t161 t162 t163 t164 t165 t166 t167 t168 t169 t170 t171 t172 t173 t174 t175 t176 t177 t178 t179 t180 t181 t182 t183 t184 t185 t186 t187 t188 t189 t190 t191 t192 t193 t194 t195 t196 t197 t198 t199 t200 t201 t202 t203 t204 t205 t206 t207 t208 t209 t210 t211 t212 t213 t214 t215 t216 t217 t218 t219 t220 t221 t222 t223 t224 t225 t226 t227 t228 t229 t230 t231 t232 t233 t234 t235 t236 t237 t238 t239 t240 t241 t242 t243 t244 t245 t246 t247 t248 t249 t250 t251 t252 t253 t254 t255 t256 t257 t258 t259 t260 t261 t262 t263 t264 t265 t266 t267 t268 t269 t270 t271 t272 t273 t274 t275 t276 t277 t278 t279 : Value}
    (q8 : T2.cell? ⟨g8, i2, none⟩ = some (.slice Bq n cq)) (e1 : (0 : Int) ≤ (i2 : Int)) (e2 : (i2 : Int) < (M : Int))
    (b10 : T2.cell? ⟨pb, 0, none⟩ = some (.int .i64 xfk.br)) (b11 : T2.cell? ⟨pb, 1, none⟩ = some (.int .i64 xfk.vol)) (b12 : T2.cell? ⟨pb, 2, none⟩ = some (.int .i64 xfk.blk)) (b13 : T2.cell? ⟨pb, 3, none⟩ = some (.int .u64 xfk.num))
    (ea1 : Bq = some ⟨ib1, io1, none⟩) (ic1 : ItemAt T2 ib1 (io1 + jf * 5) (xfk, nf)) (hj1 : jf < n)
    (b20 : T2.cell? ⟨qb, 0, none⟩ = some (.int .i64 xck.br)) (b21 : T2.cell? ⟨qb, 1, none⟩ = some (.int .i64 xck.vol)) (b22 : T2.cell? ⟨qb, 2, none⟩ = some (.int .i64 xck.blk)) (b23 : T2.cell? ⟨qb, 3, none⟩ = some (.int .u64 xck.num))
    (ea2 : Bq = some ⟨ib2, io2, none⟩) (ic2 : ItemAt T2 ib2 (io2 + jc * 5) (xck, nc)) (hj2 : jc < n)
    (hQ : ∀ (s190 s191 s192 s193 s194 s195 s196 s197 s198 s199 s200 s201 s202 s203 s204 s205 s206 s207 s208 s209 s210 s211 s212 s213 s214 s215 s216 s217 s218 s219 s220 s221 s222 s223 s224 s225 s226 s227 s228 s229 s230 s231 s232 s233 s234 s235 s236 s237 s238 s239 s240 s241 s242 s243 s244 s245 s246 s247 s248 s249 s250 s251 s252 s253 s254 s255 s256 s257 s258 s259 s260 s261 s262 s263 s264 s265 s266 s267 s268 s269 s270 s271 s272 s273 s274 s275 s276 s277 s278 : Value) (X : World), Below T2.heap.size T2 X → Q .normal { tmps := #[t0, t1, t2, t3, t4, t5, t6, t7, .slice (some ⟨g8, 0, none⟩) M c8, t9, t10, t11, .int .i64 i2, .pointer (some ⟨pb, 0, none⟩), .int .u64 nf, .bool true, .pointer (some ⟨qb, 0, none⟩), .int .u64 nc, .bool true, .int .i64 jf, .int .i64 jc, t21, t22, t23, t24, t25, t26, t27, t28, t29, t30, t31, t32, t33, t34, t35, t36, t37, t38, t39, t40, t41, t42, t43, t44, t45, t46, t47, t48, t49, t50, t51, t52, t53, t54, t55, t56, t57, t58, t59, t60, t61, t62, t63, t64, t65, t66, t67, t68, t69, t70, t71, t72, t73, t74, t75, t76, t77, t78, t79, t80, t81, t82, t83, t84, t85, t86, t87, t88, t89, t90, t91, t92, t93, t94, t95, t96, t97, t98, t99, t100, t101, t102, t103, t104, t105, t106, t107, t108, t109, t110, t111, t112, t113, t114, t115, t116, t117, t118, t119, t120, t121, t122, t123, t124, t125, t126, t127, t128, t129, t130, t131, t132, t133, t134, t135, t136, t137, t138, t139, t140, t141, t142, t143, t144, t145, t146, t147, t148, t149, t150, t151, t152, t153, t154, t155, t156, t157, t158, t159, t160, t161, t162, t163, t164, t165, t166, t167, t168, t169, t170, t171, t172, t173, t174, t175, t176, t177, t178, t179, t180, t181, t182, t183, t184, t185, t186, t187, t188, t189, s190, s191, s192, s193, s194, s195, s196, s197, s198, s199, s200, s201, s202, s203, s204, s205, s206, s207, s208, s209, s210, s211, s212, s213, s214, s215, s216, s217, s218, s219, s220, s221, s222, s223, s224, s225, s226, s227, s228, s229, s230, s231, s232, s233, s234, s235, s236, s237, s238, s239, s240, s241, s242, s243, s244, s245, s246, s247, s248, s249, s250, s251, s252, s253, s254, s255, s256, s257, s258, s259, s260, s261, s262, s263, s264, s265, s266, s267, s268, s269, s270, s271, s272, s273, s274, s275, s276, s277, s278, .bool false], defers := D } X) :
    (Code.region 28 ops true).wp Try.prog Q { tmps := #[t0, t1, t2, t3, t4, t5, t6, t7, .slice (some ⟨g8, 0, none⟩) M c8, t9, t10, t11, .int .i64 i2, .pointer (some ⟨pb, 0, none⟩), .int .u64 nf, .bool true, .pointer (some ⟨qb, 0, none⟩), .int .u64 nc, .bool true, .int .i64 jf, .int .i64 jc, t21, t22, t23, t24, t25, t26, t27, t28, t29, t30, t31, t32, t33, t34, t35, t36, t37, t38, t39, t40, t41, t42, t43, t44, t45, t46, t47, t48, t49, t50, t51, t52, t53, t54, t55, t56, t57, t58, t59, t60, t61, t62, t63, t64, t65, t66, t67, t68, t69, t70, t71, t72, t73, t74, t75, t76, t77, t78, t79, t80, t81, t82, t83, t84, t85, t86, t87, t88, t89, t90, t91, t92, t93, t94, t95, t96, t97, t98, t99, t100, t101, t102, t103, t104, t105, t106, t107, t108, t109, t110, t111, t112, t113, t114, t115, t116, t117, t118, t119, t120, t121, t122, t123, t124, t125, t126, t127, t128, t129, t130, t131, t132, t133, t134, t135, t136, t137, t138, t139, t140, t141, t142, t143, t144, t145, t146, t147, t148, t149, t150, t151, t152, t153, t154, t155, t156, t157, t158, t159, t160, t161, t162, t163, t164, t165, t166, t167, t168, t169, t170, t171, t172, t173, t174, t175, t176, t177, t178, t179, t180, t181, t182, t183, t184, t185, t186, t187, t188, t189, t190, t191, t192, t193, t194, t195, t196, t197, t198, t199, t200, t201, t202, t203, t204, t205, t206, t207, t208, t209, t210, t211, t212, t213, t214, t215, t216, t217, t218, t219, t220, t221, t222, t223, t224, t225, t226, t227, t228, t229, t230, t231, t232, t233, t234, t235, t236, t237, t238, t239, t240, t241, t242, t243, t244, t245, t246, t247, t248, t249, t250, t251, t252, t253, t254, t255, t256, t257, t258, t259, t260, t261, t262, t263, t264, t265, t266, t267, t268, t269, t270, t271, t272, t273, t274, t275, t276, t277, t278, t279], defers := D } T2 := by
  have key : ∃ o, (Try.f13.body).bind (pickR 28) = some o ∧ (Code.region 28 o true).wp Try.prog Q { tmps := #[t0, t1, t2, t3, t4, t5, t6, t7, .slice (some ⟨g8, 0, none⟩) M c8, t9, t10, t11, .int .i64 i2, .pointer (some ⟨pb, 0, none⟩), .int .u64 nf, .bool true, .pointer (some ⟨qb, 0, none⟩), .int .u64 nc, .bool true, .int .i64 jf, .int .i64 jc, t21, t22, t23, t24, t25, t26, t27, t28, t29, t30, t31, t32, t33, t34, t35, t36, t37, t38, t39, t40, t41, t42, t43, t44, t45, t46, t47, t48, t49, t50, t51, t52, t53, t54, t55, t56, t57, t58, t59, t60, t61, t62, t63, t64, t65, t66, t67, t68, t69, t70, t71, t72, t73, t74, t75, t76, t77, t78, t79, t80, t81, t82, t83, t84, t85, t86, t87, t88, t89, t90, t91, t92, t93, t94, t95, t96, t97, t98, t99, t100, t101, t102, t103, t104, t105, t106, t107, t108, t109, t110, t111, t112, t113, t114, t115, t116, t117, t118, t119, t120, t121, t122, t123, t124, t125, t126, t127, t128, t129, t130, t131, t132, t133, t134, t135, t136, t137, t138, t139, t140, t141, t142, t143, t144, t145, t146, t147, t148, t149, t150, t151, t152, t153, t154, t155, t156, t157, t158, t159, t160, t161, t162, t163, t164, t165, t166, t167, t168, t169, t170, t171, t172, t173, t174, t175, t176, t177, t178, t179, t180, t181, t182, t183, t184, t185, t186, t187, t188, t189, t190, t191, t192, t193, t194, t195, t196, t197, t198, t199, t200, t201, t202, t203, t204, t205, t206, t207, t208, t209, t210, t211, t212, t213, t214, t215, t216, t217, t218, t219, t220, t221, t222, t223, t224, t225, t226, t227, t228, t229, t230, t231, t232, t233, t234, t235, t236, t237, t238, t239, t240, t241, t242, t243, t244, t245, t246, t247, t248, t249, t250, t251, t252, t253, t254, t255, t256, t257, t258, t259, t260, t261, t262, t263, t264, t265, t266, t267, t268, t269, t270, t271, t272, t273, t274, t275, t276, t277, t278, t279], defers := D } T2 := by
    refine ⟨_, rfl, ?_⟩
    clear h
    have : Nonempty (Wd (Below T2.heap.size T2)) := cls_ne T2
    have m8 := cls_cell q8
    subst ea1
    cases ea2
    have r10 := cls_cell b10
    have r11 := cls_cell b11
    have r12 := cls_cell b12
    have r13 := cls_cell b13
    obtain ⟨ic10, ic11, ic12, ic13, ic14⟩ := ic1
    have m10 := cls_cell ic10
    have m11 := cls_cell ic11
    have m12 := cls_cell ic12
    have m13 := cls_cell ic13
    have m14 := cls_cell ic14
    have g1a : (0 : Int) ≤ (jf : Int) := by omega
    have g1b : (jf : Int) < (n : Int) := by omega
    have g1c : decide ((0 : Int) ≤ (jf : Int)) = true := by simp
    have HE1 : ∀ W, _ := fun W => sp_neP xfk W
    have hv1 : (nf != nf) = false := by simp
    clear ic10 ic11 ic12 ic13 ic14 hj1
    clear b10 b11 b12 b13
    have r20 := cls_cell b20
    have r21 := cls_cell b21
    have r22 := cls_cell b22
    have r23 := cls_cell b23
    obtain ⟨ic20, ic21, ic22, ic23, ic24⟩ := ic2
    have m20 := cls_cell ic20
    have m21 := cls_cell ic21
    have m22 := cls_cell ic22
    have m23 := cls_cell ic23
    have m24 := cls_cell ic24
    have g2a : (0 : Int) ≤ (jc : Int) := by omega
    have g2b : (jc : Int) < (n : Int) := by omega
    have g2c : decide ((0 : Int) ≤ (jc : Int)) = true := by simp
    have HE2 : ∀ W, _ := fun W => sp_neP xck W
    have hv2 : (nc != nc) = false := by simp
    clear ic20 ic21 ic22 ic23 ic24 hj2
    clear b20 b21 b22 b23
    clear q8
    (try simp only [List.append_eq, List.cons_append, List.nil_append])
    refine wp_region_cls (S := Below T2.heap.size T2) (by kernel_rfl) (by kernel_rfl) (bel_drewN _ _ (n := 1)) ?_
    repeat (go_big_quiet_step (fail))
    refine wpQuiet_nil ?_
    rintro _ ⟨x, rfl⟩
    exact hQ _ _ _ _ _ _ _ _ _ _ _ _ _ _ _ _ _ _ _ _ _ _ _ _ _ _ _ _ _ _ _ _ _ _ _ _ _ _ _ _ _ _ _ _ _ _ _ _ _ _ _ _ _ _ _ _ _ _ _ _ _ _ _ _ _ _ _ _ _ _ _ _ _ _ _ _ _ _ _ _ _ _ _ _ _ _ _ _ _ x.w x.h
  obtain ⟨o, e, hw⟩ := key
  rw [e] at h
  cases h
  exact hw
end Go.Proofs.Ytainljbkejafcaa.N
